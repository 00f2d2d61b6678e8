/-
  Texts joined: words and contracts that later texts use; lemmas alone, no conditions of a statement.
-/
import Derived.Test.YtebaojcfmkobjaaGr01
import Derived.Lib.AppendStr
import Derived.Test.YtebaojcfmkobjaaGr00
import Derived.Maps.AppendAt
import Derived.Laws.IdiomStrings
import Derived.Laws.BytesArg
set_option linter.unusedVariables false
set_option linter.unusedSimpArgs false
/-
  Contracts of laying texts as bytes: wire's own.
-/
namespace Go.Proofs.Ytebaojcfmkobjaa
open Go.RowKit

/-- Texts' bytes, behind the count. -/
def txt (ls : List ByteArray) : List UInt8 := ls.flatMap fun s => enc s.size ++ s.data.toList
/-- Texts' bytes. -/
def putB (ls : List ByteArray) : List UInt8 := enc ls.length ++ txt ls
theorem txt_nil : txt [] = [] := rfl
theorem txt_append (a b : List ByteArray) : txt (a ++ b) = txt a ++ txt b := by simp [txt]
theorem txt_snoc (a : List ByteArray) (s : ByteArray) : txt (a ++ [s]) = txt a ++ enc s.size ++ s.data.toList := by simp [txt]
theorem txt_take {ls : List ByteArray} {k : Nat} {u : ByteArray} (h : ls[k]? = some u) : txt (ls.take (k + 1)) = txt (ls.take k) ++ enc u.size ++ u.data.toList := by
  rw [take_at h, txt_snoc]
theorem bytes_len (s : ByteArray) : s.data.toList.length = s.size := by rw [Array.length_toList]; rfl
theorem txt_take_le (ls : List ByteArray) (k : Nat) : (txt (ls.take k)).length ≤ (txt ls).length := by
  have h : txt ls = txt (ls.take k) ++ txt (ls.drop k) := by rw [← txt_append, List.take_append_drop]
  rw [h, List.length_append]; omega
set_option maxRecDepth 100000 in
set_option maxHeartbeats 1000000 in
theorem wire_Put {A : Option Addr} {n c : Nat} {ls : List ByteArray} (w : World) (hs : Sl w 1 A n (strs ls)) (hn : n ≤ 1099511627776) (hb : (putB ls).length ≤ 1048576) :
    Calls Try.prog 92 #[.slice A n c] w fun e w' => ∃ v', e = .returned (.tuple #[v', .int .i64 0]) ∧ w'.ownsRow w.heap.size 5 1 v' (putB ls).length (bytes8 (putB ls)) ∧ Below w.heap.size w w' := by
  have HL := hide hs.slen
  have HB := hide hb
  clear hb
  obtain ⟨i0, hi, hz0, hz1, hz2⟩ := info_parts Try.infoByte
  go_enter Try.func92, Try.ntmps92
  go_wp2_with fail
  go_step3
  go_wp2_with (go_at_call 103; refine (wire_num w.heap.size _ n [] _ (World.ownsRow_nil _ _ _ _) (Nat.le_refl _) (by omega) (by simp)).mono ?_; rintro e w1 ⟨v1, rfl, hown1, hb1⟩)
  have hz1' := hb1.size
  go_loopw [4, 12] (fun b i wr => ∃ (k : Nat) (ys : List UInt8), k ≤ n ∧ i = .int .i64 k ∧ Hid (enc n ++ txt (ls.take k) = ys) ∧ ys.length ≤ 1048576 ∧ wr.ownsRow w.heap.size 5 1 b ys.length (bytes8 ys) ∧ Below w.heap.size w wr) (fun _ i _ => n - (intOf i).toNat)
  case atStart => exact ⟨0, enc n, Nat.zero_le _, rfl, by simp [Hid, txt_nil], by have := enc_len_63 (n := n) (by omega); omega, hown1, hb1⟩
  case round =>
    obtain ⟨k, ys, hk, rfl, HY, hyl, hown, hb⟩ := hrel
    have hsz := hb.size
    have hTot : Hid ((enc n ++ txt ls).length ≤ 1048576) := by have := HB.out; rw [putB, HL.out] at this; exact this
    clear hown1 hb1 hz1'
    obtain ⟨wo, rfl⟩ : ∃ wo : World, wo = wr := ⟨_, rfl⟩
    by_cases hlt : k < n
    · obtain ⟨b, off, u, rfl, HU, hc, _⟩ := hs.str hlt
      have hc' := cell_later hb hc
      clear hc hs
      obtain ⟨zs, HZ⟩ : ∃ zs, Hid (ys ++ enc u.size = zs) := ⟨_, rfl⟩
      have HQ : Hid (enc n ++ txt (ls.take (k + 1)) = zs ++ u.data.toList) := by
        rw [Hid, txt_take HU.out, ← HZ.out, ← HY.out]; simp
      have hq : zs.length + u.size ≤ 1048576 := by
        have h1 := HQ.out
        have h2 := congrArg List.length h1
        have h3 := txt_take_le ls (k + 1)
        have h4 := hTot.out
        rw [List.length_append, List.length_append, bytes_len] at h2
        rw [List.length_append] at h4
        omega
      go_wp2_with (first
        | (go_at_call 103; refine (wire_num w.heap.size _ u.size ys _ hown (by omega) (by omega) (by omega)).mono ?_; rintro e w2 ⟨v2, rfl, hown2, hb2⟩; rw [HZ.out] at hown2; have hb3 := hb.trans hb2; have hsz3 := hb3.size; obtain ⟨A2, c2, rfl⟩ := own_slice hown2)
        | (at_builtin; refine Go.Lib.wpList_append_own_string _ rfl _ _ 60 9 rfl w.heap.size 5 i0 Try.underlying60 Try.underlying9 hi hz0 hz1 hz2 _ _ _ rfl hown2 _ rfl ?c1 ?c2 ?c3 ?_))
      case c1 => unfold maxLen; omega
      case c2 => omega
      case c3 => omega
      intro v3 w3 hown3 hg _
      have hb4 : Below w.heap.size w w3 := hb3.grown hg (by omega) (fun g hg' => (hown2.lt g hg').1)
      have hown4 : w3.ownsRow w.heap.size 5 1 v3 (zs ++ u.data.toList).length (bytes8 (zs ++ u.data.toList)) := by rw [bytes8_append, List.length_append, bytes_len]; exact hown3
      have hfl : (zs ++ u.data.toList).length ≤ 1048576 := by rw [List.length_append, bytes_len]; exact hq
      clear hown3 hg hown2 hb3 hown hb hb2
      go_wp2_with fail
      go_roundw
      case rel => exact ⟨k + 1, _, by omega, by go_num, HQ, hfl, hown4, hb4⟩
      case measure => simp [intOf]; omega
    · obtain rfl : k = n := by omega
      have HF : Hid (ys = putB ls) := by
        have h := HY.out
        rw [List.take_of_length_le (by rw [HL.out]; exact Nat.le_refl _)] at h
        rw [Hid, putB, HL.out, h]
      obtain ⟨A2, c2, rfl⟩ := own_slice hown
      go_wp2_with fail
      try rw [Exit.noGoto_ret]
      go_ret2
      refine ⟨_, rfl, ?_, hb⟩
      rw [← HF.out]
      exact hown
end Go.Proofs.Ytebaojcfmkobjaa
/-
  Contracts of laying numbers as bytes: wire's own.
-/
namespace Go.Proofs.Ytebaojcfmkobjaa
open Go.RowKit

/-- Numbers' bytes, behind the count. -/
def nums (xs : List Int) : List UInt8 := xs.flatMap fun x => enc x.toNat
/-- Numbers' bytes. -/
def numsB (xs : List Int) : List UInt8 := enc xs.length ++ nums xs
theorem nums_append (a b : List Int) : nums (a ++ b) = nums a ++ nums b := by simp [nums]
theorem nums_take {xs : List Int} {k : Nat} {u : Int} (h : xs[k]? = some u) : nums (xs.take (k + 1)) = nums (xs.take k) ++ enc u.toNat := by
  rw [take_at h, nums_append]; simp [nums]
theorem nums_take_le (xs : List Int) (k : Nat) : (nums (xs.take k)).length ≤ (nums xs).length := by
  have h : nums xs = nums (xs.take k) ++ nums (xs.drop k) := by rw [← nums_append, List.take_append_drop]
  rw [h, List.length_append]; omega

set_option maxRecDepth 100000 in
set_option maxHeartbeats 1000000 in
theorem wire_Nums_yes {A : Option Addr} {n c : Nat} {xs : List Int} (w : World) (hs : Sl w 1 A n (ints xs)) (hn : n ≤ 1099511627776) (h0 : ∀ x ∈ xs, 0 ≤ x ∧ x ≤ 9223372036854775807) (hb : (numsB xs).length ≤ 1048576) :
    Calls Try.prog 105 #[.slice A n c] w fun e w' => ∃ v', e = .returned (.tuple #[v', .int .i64 0]) ∧ w'.ownsRow w.heap.size 5 1 v' (numsB xs).length (bytes8 (numsB xs)) ∧ Below w.heap.size w w' := by
  have HL := hide hs.ilen
  have HB := hide hb
  have H0 := hide h0
  clear hb h0
  go_enter Try.func105, Try.ntmps105
  go_wp2_with (go_at_call 103; refine (wire_num w.heap.size _ n [] _ (World.ownsRow_nil _ _ _ _) (Nat.le_refl _) (by omega) (by simp)).mono ?_; rintro e w1 ⟨v1, rfl, hown1, hb1⟩)
  have hz1' := hb1.size
  go_loopw [4, 12] (fun b i wr => ∃ (k : Nat) (ys : List UInt8), k ≤ n ∧ i = .int .i64 k ∧ Hid (enc n ++ nums (xs.take k) = ys) ∧ ys.length ≤ 1048576 ∧ wr.ownsRow w.heap.size 5 1 b ys.length (bytes8 ys) ∧ Below w.heap.size w wr) (fun _ i _ => n - (intOf i).toNat)
  case atStart => exact ⟨0, enc n, Nat.zero_le _, rfl, by simp [Hid, nums], by have := enc_len_63 (n := n) (by omega); omega, hown1, hb1⟩
  case round =>
    obtain ⟨k, ys, hk, rfl, HY, hyl, hown, hb⟩ := hrel
    have hsz := hb.size
    have hTot : Hid ((enc n ++ nums xs).length ≤ 1048576) := by have := HB.out; rw [numsB, HL.out] at this; exact this
    clear hown1 hb1 hz1'
    obtain ⟨wo, rfl⟩ : ∃ wo : World, wo = wr := ⟨_, rfl⟩
    obtain ⟨A2, c2, rfl⟩ := own_slice hown
    by_cases hlt : k < n
    · obtain ⟨b, off, u, rfl, HU, hc, _⟩ := hs.int hlt
      have hc' := cell_later hb hc
      obtain ⟨hu0, hu1⟩ := H0.out u (List.mem_of_getElem? HU.out)
      obtain ⟨m, rfl⟩ : ∃ m : Nat, u = (m : Int) := ⟨u.toNat, by omega⟩
      have hm : m ≤ 9223372036854775807 := by omega
      clear hc hs hu0 hu1
      have HQ : Hid (enc n ++ nums (xs.take (k + 1)) = ys ++ enc m) := by
        rw [Hid, nums_take HU.out, ← HY.out]; simp
      have hq : (ys ++ enc m).length ≤ 1048576 := by
        have h2 := congrArg List.length HQ.out
        have h3 := nums_take_le xs (k + 1)
        have h4 := hTot.out
        rw [List.length_append] at h2 h4
        omega
      obtain ⟨yl, HYL⟩ : ∃ yl, Hid (ys.length = yl) := ⟨_, rfl⟩
      go_wp2_with (first
        | (go_at_call 103; refine (wire_num w.heap.size _ m ys _ hown (by omega) (by omega) (by omega)).mono ?_; rintro e w2 ⟨v2, rfl, hown2, hb2⟩; have hb3 := hb.trans hb2))
      go_roundw
      case rel => exact ⟨k + 1, _, by omega, by go_num, HQ, hq, hown2, hb3⟩
      case measure => simp [intOf]; omega
    · obtain rfl : k = n := by omega
      have HF : Hid (ys = numsB xs) := by
        have h := HY.out
        rw [List.take_of_length_le (by rw [HL.out]; exact Nat.le_refl _)] at h
        rw [Hid, numsB, HL.out, h]
      go_wp2_with fail
      go_ret2
      refine ⟨_, rfl, ?_, hb⟩
      rw [← HF.out]
      exact hown

end Go.Proofs.Ytebaojcfmkobjaa
/-
  What bytes are read as: texts, numbers: plain facts, over no program.
-/
namespace Go.Proofs.Ytebaojcfmkobjaa

/-- A text of bytes. -/
def tx (bs : List UInt8) : ByteArray := ⟨bs.toArray⟩
theorem tx_size (bs : List UInt8) : (tx bs).size = bs.length := by show bs.toArray.size = _; simp
theorem tx_data (bs : List UInt8) : (tx bs).data.toList = bs := by simp [tx]
theorem tx_of (s : ByteArray) : tx s.data.toList = s := by cases s; simp [tx]

/-- Things, so many, to the end. -/
def rdL {α : Type} (one : List UInt8 → Option (α × List UInt8)) : Nat → List UInt8 → Option (List α)
  | 0, r => if r = [] then some [] else none
  | n + 1, r =>
    match one r with
    | none => none
    | some (a, r') =>
      match rdL one n r' with
      | none => none
      | some l => some (a :: l)
/-- Things, of whole bytes. -/
def getL {α : Type} (one : List UInt8 → Option (α × List UInt8)) (bs : List UInt8) : Option (List α) :=
  if 1048576 < bs.length then none else
  match getN bs with
  | none => none
  | some (m, k) => if m ≤ (bs.drop k).length then rdL one m (bs.drop k) else none
def oneT (r : List UInt8) : Option (ByteArray × List UInt8) :=
  match getN r with
  | none => none
  | some (m, k) => if m ≤ (r.drop k).length then some (tx ((r.drop k).take m), (r.drop k).drop m) else none
def oneI (r : List UInt8) : Option (Int × List UInt8) :=
  match getN r with
  | none => none
  | some (m, k) => some ((m : Int), r.drop k)
def getT (bs : List UInt8) : Option (List ByteArray) := getL oneT bs
def getI (bs : List UInt8) : Option (List Int) := getL oneI bs

theorem getN_some {bs : List UInt8} {m k : Nat} (h : getN bs = some (m, k)) : m ≤ 9223372036854775807 ∧ k = (enc m).length ∧ bs = enc m ++ bs.drop k ∧ 0 < k ∧ k ≤ bs.length := by
  obtain ⟨h1, h2, r, h3⟩ := dec_some 9 bs m k h
  have e : (128 : Nat) ^ 9 = 9223372036854775808 := by decide
  have h4 : bs.drop k = r := by rw [h3, h2]; simp
  refine ⟨by omega, h2, by rw [h4]; exact h3, by rw [h2]; exact enc_pos m, ?_⟩
  rw [h3, h2]; simp
theorem getN_of (m : Nat) (hm : m ≤ 9223372036854775807) (r : List UInt8) : getN (enc m ++ r) = some (m, (enc m).length) :=
  dec_enc 9 m r (by have : (128 : Nat) ^ 9 = 9223372036854775808 := by decide
                    omega) (by omega)

/-- A way to lay things as bytes, and to read them. -/
structure Codec {α : Type} (one : List UInt8 → Option (α × List UInt8)) (e : α → List UInt8) (dom : α → Prop) : Prop where
  pos : ∀ a, 0 < (e a).length
  there : ∀ a r, dom a → one (e a ++ r) = some (a, r)
  back : ∀ r a r', one r = some (a, r') → r = e a ++ r' ∧ dom a

def encT (s : ByteArray) : List UInt8 := enc s.size ++ s.data.toList
def encI (n : Int) : List UInt8 := enc n.toNat
theorem codecT : Codec oneT encT (fun s => s.size ≤ 9223372036854775807) := by
  refine ⟨fun a => ?_, fun a r h => ?_, fun r a r' h => ?_⟩
  · have := enc_pos a.size
    simp only [encT, List.length_append]; omega
  · unfold oneT encT
    rw [List.append_assoc, getN_of _ h]
    simp only [List.drop_left']
    rw [if_pos (by rw [List.length_append, bytes_len]; omega)]
    have e1 : (a.data.toList ++ r).take a.size = a.data.toList := List.take_left' (bytes_len a)
    have e2 : (a.data.toList ++ r).drop a.size = r := List.drop_left' (bytes_len a)
    rw [e1, e2, tx_of]
  · unfold oneT at h
    cases hg : getN r with
    | none => rw [hg] at h; cases h
    | some p =>
      obtain ⟨m, k⟩ := p
      rw [hg] at h
      simp only at h
      by_cases hm : m ≤ (r.drop k).length
      · rw [if_pos hm] at h
        injection h with h
        injection h with e1 e2
        subst e1; subst e2
        obtain ⟨h1, h2, h3, _, _⟩ := getN_some hg
        have hs : (tx ((r.drop k).take m)).size = m := by rw [tx_size, List.length_take]; omega
        refine ⟨?_, by rw [hs]; exact h1⟩
        unfold encT
        rw [hs, tx_data, List.append_assoc, List.take_append_drop]
        exact h3
      · rw [if_neg hm] at h; cases h
theorem codecI : Codec oneI encI (fun n => 0 ≤ n ∧ n ≤ 9223372036854775807) := by
  refine ⟨fun a => enc_pos _, fun a r h => ?_, fun r a r' h => ?_⟩
  · unfold oneI encI
    rw [getN_of _ (by omega)]
    simp only [List.drop_left']
    congr 2
    omega
  · unfold oneI at h
    cases hg : getN r with
    | none => rw [hg] at h; cases h
    | some p =>
      obtain ⟨m, k⟩ := p
      rw [hg] at h
      injection h with h
      injection h with e1 e2
      subst e1; subst e2
      obtain ⟨h1, h2, h3, _, _⟩ := getN_some hg
      refine ⟨?_, by omega⟩
      unfold encI
      rw [Int.toNat_natCast]
      exact h3

section
variable {α : Type} {one : List UInt8 → Option (α × List UInt8)} {e : α → List UInt8} {dom : α → Prop}
/-- Things' bytes. -/
def putL (e : α → List UInt8) (l : List α) : List UInt8 := enc l.length ++ l.flatMap e
theorem rdL_there (C : Codec one e dom) : ∀ (l : List α), (∀ a ∈ l, dom a) → rdL one l.length (l.flatMap e) = some l
  | [], _ => rfl
  | a :: l, h => by
    rw [List.flatMap_cons, List.length_cons, rdL, C.there a _ (h a (by simp))]
    simp only
    rw [rdL_there C l (fun b hb => h b (by simp [hb]))]
theorem flat_len (hpos : ∀ a, 0 < (e a).length) : ∀ l : List α, l.length ≤ (l.flatMap e).length
  | [] => by simp
  | a :: l => by
    have := flat_len hpos l
    have := hpos a
    rw [List.flatMap_cons, List.length_append, List.length_cons]
    omega
theorem getL_there (C : Codec one e dom) {l : List α} (h : ∀ a ∈ l, dom a) (hl : (putL e l).length ≤ 1048576) : getL one (putL e l) = some l := by
  have hc : l.length ≤ (l.flatMap e).length := flat_len C.pos l
  have hn : l.length ≤ 1048576 := by
    rw [putL, List.length_append] at hl; omega
  unfold getL
  rw [if_neg (by omega), putL, getN_of _ (by omega)]
  simp only [List.drop_left']
  rw [if_pos hc]
  exact rdL_there C l h
end
theorem putL_T (ls : List ByteArray) : putL encT ls = putB ls := rfl
theorem putL_I (xs : List Int) : putL encI xs = numsB xs := rfl
end Go.Proofs.Ytebaojcfmkobjaa
/-
  append of any slice, of no elements too: at a plain region's list, at a step of a region that draws.
-/
namespace Go.Proofs.Ytebaojcfmkobjaa
open Go.RowKit

section
variable {P : Program} (w : World)
theorem run_append_any (base : Nat) (t ty e : TypeId) (i : TypeInfo) (z : Value) (size bytes : Nat) (ht : P.underlying t = some (.slice e)) (hi : P.info? e = some i) (hz : i.zero = some z)
    (hsize : i.size = size) (hby : i.bytes = bytes) (hzs : z.cells.size = size) (hsz : 0 < size)
    (v : Value) (n : Nat) (xs : List Value) (hown : w.ownsRow base e size v n xs)
    (A : Option Addr) (m c : Nat) (news : List Value) (hsl : Sl w size A m news) (h1 : ∀ u ∈ news, u.oneCell' = true)
    (h63 : n + m ≤ maxLen) (hbytes : (n + m) * bytes ≤ 140737488355328) (hbase : base ≤ w.heap.size) :
    ∃ v' w', (Builtin.append_ #[t, t] ty #[v, .slice A m c]).run P w = .ok v' w' ∧ w'.ownsRow base e size v' (n + m) (xs ++ news) ∧ w.grownBy w' v.ownBlock := by
  have some_ : ∀ a : Addr, A = some a → ∃ v' w', (Builtin.append_ #[t, t] ty #[v, .slice A m c]).run P w = .ok v' w' ∧ w'.ownsRow base e size v' (n + m) (xs ++ news) ∧ w.grownBy w' v.ownBlock := by
    rintro a rfl
    obtain ⟨v', w', h2, h3, h4, _⟩ := run_append_own (P := P) w base t ty e i z size bytes ht hi hz hsize hby hzs hsz v n xs hown a m c news hsl.1 (by
      intro j u hu
      have hm : 0 < m := by
        rcases Nat.eq_zero_or_pos m with rfl | h
        · have := hsl.1
          rw [Nat.zero_mul] at this
          have := List.eq_nil_of_length_eq_zero this
          subst this
          simp at hu
        · exact h
      obtain ⟨b, off, hA, _, hc⟩ := hsl.2 hm
      injection hA with hA
      subst hA
      rw [add_lit]
      exact hc j u hu) h1 h63 hbytes hbase
    exact ⟨v', w', h2, h3, h4⟩
  cases hA : A with
  | some a => rw [← hA]; exact some_ a hA
  | none =>
    have hm : m = 0 := by
      rcases Nat.eq_zero_or_pos m with h | h
      · exact h
      · obtain ⟨b, off, hA', _⟩ := hsl.2 h
        rw [hA] at hA'
        cases hA'
    subst hm
    have hn : news = [] := List.eq_nil_of_length_eq_zero (by simpa using hsl.1)
    subst hn
    refine ⟨v, w, ?_, by simpa using hown, ⟨rfl, rfl, rfl, Nat.le_refl _, fun _ _ _ => rfl⟩⟩
    rcases hown.2 with ⟨rfl, rfl⟩ | ⟨g, cap, cur, rfl, hbg, hg, hnc, hcm, hcs, htake⟩
    · simp [Builtin.append_, run_underlying ht, sizeOf, typeInfo, hi, Builtin.lenOf, Builtin.firstCells, loadCells, loadCellsFrom]
    · simp [Builtin.append_, run_underlying ht, sizeOf, typeInfo, hi, Builtin.lenOf, Builtin.firstCells, loadCells, loadCellsFrom, hnc, storeCells]

theorem wp_append_any {o : Oper} {a : Act} {K : Act → World → Prop} {Q : Exit → Act → World → Prop} (s x : Operand) (t : TypeId)
    (ho : o.op = .call { callee := .builtin .append, args := #[s, x], argTypes := #[t, t] })
    (base : Nat) (e : TypeId) (i : TypeInfo) (z : Value) (size bytes : Nat) (ht : P.underlying t = some (.slice e)) (hi : P.info? e = some i) (hz : i.zero = some z)
    (hsize : i.size = size) (hby : i.bytes = bytes) (hzs : z.cells.size = size) (hsz : 0 < size)
    (v : Value) (n : Nat) (xs : List Value) (hs : a.eval s = v) (hown : w.ownsRow base e size v n xs)
    (A : Option Addr) (m c : Nat) (news : List Value) (hx : a.eval x = .slice A m c) (hsl : Sl w size A m news) (h1 : ∀ u ∈ news, u.oneCell' = true)
    (h63 : n + m ≤ maxLen) (hbytes : (n + m) * bytes ≤ 140737488355328) (hbase : base ≤ w.heap.size)
    (h : ∀ v' w', w'.ownsRow base e size v' (n + m) (xs ++ news) → w.grownBy w' v.ownBlock → K (a.put o.dst v') w') : o.wp P a w K Q := by
  obtain ⟨v', w', hr, h2, h3⟩ := run_append_any (P := P) w base t o.type e i z size bytes ht hi hz hsize hby hzs hsz v n xs hown A m c news hsl h1 h63 hbytes hbase
  unfold Oper.wp execOp
  simp only [ho, resolve, invoke, builtin, Sem.run_bind, Sem.run_pure, Result.andThen_ok, List.map_toArray, List.map_cons, List.map_nil, hs, hx, hr]
  exact h v' w' h2 h3

theorem wpList_append_any {ops : Array Oper} {rest : List Oper} {o : Oper} {a : Act} {Q : Exit → Act → World → Prop} (hgd : o.guard = none) (s x : Operand) (t : TypeId)
    (ho : o.op = .call { callee := .builtin .append, args := #[s, x], argTypes := #[t, t] })
    (base : Nat) (e : TypeId) (i : TypeInfo) (z : Value) (size bytes : Nat) (ht : P.underlying t = some (.slice e)) (hi : P.info? e = some i) (hz : i.zero = some z)
    (hsize : i.size = size) (hby : i.bytes = bytes) (hzs : z.cells.size = size) (hsz : 0 < size)
    (v : Value) (n : Nat) (xs : List Value) (hs : a.eval s = v) (hown : w.ownsRow base e size v n xs)
    (A : Option Addr) (m c : Nat) (news : List Value) (hx : a.eval x = .slice A m c) (hsl : Sl w size A m news) (h1 : ∀ u ∈ news, u.oneCell' = true)
    (h63 : n + m ≤ maxLen) (hbytes : (n + m) * bytes ≤ 140737488355328) (hbase : base ≤ w.heap.size)
    (h : ∀ v' w', w'.ownsRow base e size v' (n + m) (xs ++ news) → w.grownBy w' v.ownBlock → wpList P ops Q rest (a.put o.dst v') w') : wpList P ops Q (o :: rest) a w :=
  wpList_plain hgd fun _ hK => wp_append_any w s x t ho base e i z size bytes ht hi hz hsize hby hzs hsz v n xs hs hown A m c news hx hsl h1 h63 hbytes hbase fun v' w' h2 h3 => hK _ _ (h v' w' h2 h3)

theorem step_append_any {ops : Array Oper} {o : Oper} {a : Act} {K : Act → World → Prop} {Q : Exit → Act → World → Prop} {E : Prop} (hgd : o.guard = none) (s x : Operand) (t : TypeId)
    (ho : o.op = .call { callee := .builtin .append, args := #[s, x], argTypes := #[t, t] })
    (base : Nat) (e : TypeId) (i : TypeInfo) (z : Value) (size bytes : Nat) (ht : P.underlying t = some (.slice e)) (hi : P.info? e = some i) (hz : i.zero = some z)
    (hsize : i.size = size) (hby : i.bytes = bytes) (hzs : z.cells.size = size) (hsz : 0 < size)
    (v : Value) (n : Nat) (xs : List Value) (hs : a.eval s = v) (hown : w.ownsRow base e size v n xs)
    (A : Option Addr) (m c : Nat) (news : List Value) (hx : a.eval x = .slice A m c) (hsl : Sl w size A m news) (h1 : ∀ u ∈ news, u.oneCell' = true)
    (h63 : n + m ≤ maxLen) (hbytes : (n + m) * bytes ≤ 140737488355328) (hbase : base ≤ w.heap.size)
    (h : ∀ v' w', w'.ownsRow base e size v' (n + m) (xs ++ news) → w.grownBy w' v.ownBlock → K (a.put o.dst v') w') :
    if Region.wanted o (yielded ops a.tmps) = true then Oper.wp P o a w K Q else E := by
  have hw : Region.wanted o (yielded ops a.tmps) = true := by simp [Region.wanted, hgd]
  rw [if_pos hw]
  exact wp_append_any w s x t ho base e i z size bytes ht hi hz hsize hby hzs hsz v n xs hs hown A m c news hx hsl h1 h63 hbytes hbase h
end
theorem strs_one (xs : List ByteArray) : ∀ u ∈ strs xs, u.oneCell' = true := by
  intro u hu
  obtain ⟨x, _, rfl⟩ := List.mem_map.mp hu
  rfl
theorem bytes8_one (xs : List UInt8) : ∀ u ∈ bytes8 xs, u.oneCell' = true := by
  intro u hu
  obtain ⟨x, _, rfl⟩ := List.mem_map.mp hu
  rfl
end Go.Proofs.Ytebaojcfmkobjaa
/-
  Conversions between bytes and texts: at a plain region's list, at a step of a region that draws.
-/
namespace Go.Proofs.Ytebaojcfmkobjaa
open Go.RowKit

section
variable {P : Program} (w : World)
theorem run_str_of_bytes (src dst e : TypeId) (hs : P.underlying src = some (.slice e)) (he : P.underlying e = some (.int .u8)) (hd : P.underlying dst = some .string) {A : Option Addr} {n c : Nat} {bs : List UInt8}
    (hsl : Sl w 1 A n (bytes8 bs)) : (convert src dst (.slice A n c)).run P w = .ok (.string (tx bs)) w := by
  have hl := hsl.blen
  cases A with
  | none =>
    have h0 : n = 0 := by
      rcases Nat.eq_zero_or_pos n with h | h
      · exact h
      · obtain ⟨b, off, e, _⟩ := hsl.2 h
        cases e
    subst h0
    have hb : bs = [] := List.eq_nil_of_length_eq_zero hl
    subst hb
    exact run_convert_bytes_nil w src e hs he 0 c dst hd
  | some a =>
    subst hl
    refine run_convert_bytes_back w src dst e a c bs hs he hd ?_
    intro j hj
    obtain ⟨b, off, e, _, hc⟩ := hsl.2 (by omega)
    injection e with e
    subst e
    rw [add_lit]
    exact hc j _ (by simp [bytes8, List.getElem?_eq_getElem hj])
/-- A text as new bytes. -/
theorem conv_bytes (src dst e : TypeId) (s : ByteArray) (hs : P.underlying src = some .string) (hd : P.underlying dst = some (.slice e)) (he : P.underlying e = some (.int .u8)) :
    ∃ (cap : Nat) (w4 : World), (convert src dst (.string s)).run P w = .ok (.slice (some ⟨w.heap.size, 0, none⟩) s.size cap) w4 ∧ Sl w4 1 (some ⟨w.heap.size, 0, none⟩) s.size (bytes8 s.data.toList) ∧ Below w.heap.size w w4 := by
  refine ⟨_, _, run_bytes_of_string w src dst e s hs hd he, ⟨by rw [bytes8_len, bytes_len]; omega, fun h => ⟨_, _, rfl, by simp, fun j u hu => ?_⟩⟩, ((Below.refl _ _).drew).alloc (Nat.le_refl _) _⟩
  have hh := heap_alloc_new w.drew (.cells (bytesRow s (grownCap w s.size 0 e)) e ((bytesRow s (grownCap w s.size 0 e)).size, (bytesRow s (grownCap w s.size 0 e)).size + 1))
  rw [Nat.zero_add]
  refine (cell_of_row _ w.heap.size j _ _ _ hh).trans ?_
  have hj : j < s.data.size := by
    have := lt_of_at hu
    rw [bytes8_len, Array.length_toList] at this
    exact this
  unfold bytesRow
  rw [Array.getElem?_append_left (by simpa using hj)]
  simp only [bytes8, List.getElem?_map, Array.getElem?_toList] at hu
  rw [Array.getElem?_map]
  exact hu
end
/-- What a call owns stays its own where only what is new changes. -/
theorem own_later {w w' : World} {base size n : Nat} {e : TypeId} {v : Value} {xs : List Value} (h : w.ownsRow base e size v n xs) (hb : Below w.heap.size w w') : w'.ownsRow base e size v n xs := by
  refine ⟨h.1, ?_⟩
  rcases h.2 with h0 | ⟨g, cap, cur, hv, hbg, hg, hr⟩
  · exact .inl h0
  · refine .inr ⟨g, cap, cur, hv, hbg, ?_, hr⟩
    have hlt : g < w.heap.size := by
      rcases Nat.lt_or_ge g w.heap.size with h | h
      · exact h
      · rw [Array.getElem?_eq_none h] at hg; cases hg
    rw [hb.block g hlt]
    exact hg
end Go.Proofs.Ytebaojcfmkobjaa
/-
  Transactions and batches: what they are in memory, which may be, their bytes: plain facts, over no program.
-/
namespace Go.Proofs.Ytebaojcfmkobjaa
open Go.RowKit

/-- A transaction. -/
structure TxD where
  s : Int
  q : Int
  k : ByteArray
  v : ByteArray
theorem TxD.ext_ {a b : TxD} (h1 : a.s = b.s) (h2 : a.q = b.q) (h3 : a.k = b.k) (h4 : a.v = b.v) : a = b := by
  cases a; cases b; simp_all
instance : DecidableEq TxD := fun a b =>
  decidable_of_iff (a.s = b.s ∧ a.q = b.q ∧ a.k = b.k ∧ a.v = b.v) ⟨fun ⟨h1, h2, h3, h4⟩ => TxD.ext_ h1 h2 h3 h4, fun h => by subst h; exact ⟨rfl, rfl, rfl, rfl⟩⟩
def txC (t : TxD) : List Value := [.int .i64 t.s, .int .i64 t.q, .string t.k, .string t.v]
def txsC (l : List TxD) : List Value := l.flatMap txC
def txV (t : TxD) : Value := .agg #[.int .i64 t.s, .int .i64 t.q, .string t.k, .string t.v]
theorem txsC_len : ∀ l : List TxD, (txsC l).length = l.length * 4
  | [] => rfl
  | t :: l => by
    have := txsC_len l
    rw [txsC, List.flatMap_cons, List.length_append, List.length_cons]
    rw [txsC] at this
    rw [this]; simp [txC]; omega
theorem txsC_at : ∀ (l : List TxD) (k : Nat) (t : TxD), l[k]? = some t → ∀ j v, j < 4 → (txC t)[j]? = some v → (txsC l)[k * 4 + j]? = some v
  | [], k, t, h, _, _, _, _ => by simp at h
  | a :: l, 0, t, h, j, v, hj, hv => by
    simp at h; subst h
    rw [txsC, List.flatMap_cons, Nat.zero_mul, Nat.zero_add, List.getElem?_append_left (by simpa [txC] using hj)]
    exact hv
  | a :: l, k + 1, t, h, j, v, hj, hv => by
    have := txsC_at l k t (by simpa using h) j v hj hv
    rw [txsC, List.flatMap_cons, List.getElem?_append_right (by simp [txC]; omega)]
    rw [show (k + 1) * 4 + j - (txC a).length = k * 4 + j by simp [txC]; omega]
    exact this
section
variable {w w' : World} {n : Nat} {A : Option Addr} {l : List TxD}
theorem Sl.txlen (h : Sl w 4 A n (txsC l)) : l.length = n := by have := h.1; rw [txsC_len] at this; omega
theorem Sl.tx (h : Sl w 4 A n (txsC l)) {k : Nat} (hk : k < n) : ∃ b off t, A = some ⟨b, off, none⟩ ∧ Hid (l[k]? = some t) ∧ w.cell? ⟨b, off + k * 4, none⟩ = some (.int .i64 t.s) ∧ w.cell? ⟨b, off + k * 4 + 1, none⟩ = some (.int .i64 t.q) ∧
    w.cell? ⟨b, off + k * 4 + 2, none⟩ = some (.string t.k) ∧ w.cell? ⟨b, off + k * 4 + 3, none⟩ = some (.string t.v) ∧ b < w.heap.size := by
  obtain ⟨b, off, e, hb, hc⟩ := h.2 (by omega)
  have hl : k < l.length := by rw [h.txlen]; exact hk
  have ht : l[k]? = some l[k] := List.getElem?_eq_getElem hl
  have c := fun j v hj hv => hc (k * 4 + j) v (txsC_at l k _ ht j v hj hv)
  refine ⟨b, off, l[k], e, ht, ?_, ?_, ?_, ?_, hb⟩
  · exact c 0 _ (by omega) rfl
  · exact c 1 _ (by omega) rfl
  · exact c 2 _ (by omega) rfl
  · exact c 3 _ (by omega) rfl
end

/-- Which may be. -/
def idOk (n : Int) : Bool := decide (1 ≤ n ∧ n ≤ 1099511627776)
def mayTx (t : TxD) : Bool := idOk t.s && (idOk t.q && (decide (1 ≤ t.k.size ∧ t.k.size ≤ 16) && decide (t.v.size ≤ 32)))
def mayB (a n : Int) (l : List TxD) : Bool := decide (1 ≤ a ∧ a ≤ 16) && (idOk n && (decide (1 ≤ l.length ∧ l.length ≤ 8) && l.all mayTx))
theorem mayTx_iff {t : TxD} : mayTx t = true ↔ (1 ≤ t.s ∧ t.s ≤ 1099511627776) ∧ (1 ≤ t.q ∧ t.q ≤ 1099511627776) ∧ (1 ≤ t.k.size ∧ t.k.size ≤ 16) ∧ t.v.size ≤ 32 := by simp [mayTx, idOk]
theorem mayB_iff {a n : Int} {l : List TxD} : mayB a n l = true ↔ (1 ≤ a ∧ a ≤ 16) ∧ (1 ≤ n ∧ n ≤ 1099511627776) ∧ (1 ≤ l.length ∧ l.length ≤ 8) ∧ ∀ t ∈ l, mayTx t = true := by simp [mayB, idOk]

/-- A number as a text. -/
def numS (n : Int) : ByteArray := tx (enc n.toNat)
def batchW : ByteArray := ⟨#[98, 97, 116, 99, 104]⟩
def txT (t : TxD) : List ByteArray := [numS t.s, numS t.q, t.k, t.v]
/-- A batch's texts, its bytes. -/
def batchT (a n : Int) (l : List TxD) : List ByteArray := batchW :: numS a :: numS n :: l.flatMap txT
def batchB (a n : Int) (l : List TxD) : List UInt8 := putB (batchT a n l)
theorem numS_size {n : Int} (h : n ≤ 9223372036854775807) : (numS n).size ≤ 9 := by
  rw [numS, tx_size]; exact enc_len_63 (by omega)
theorem txt_le9 : ∀ (ls : List ByteArray) (B : Nat), (∀ s ∈ ls, s.size ≤ B) → B ≤ 9223372036854775807 → (txt ls).length ≤ ls.length * (9 + B)
  | [], _, _, _ => by simp [txt]
  | s :: r, B, h, hB => by
    have h1 := txt_le9 r B (fun x hx => h x (by simp [hx])) hB
    have h0 := h s (by simp)
    have h2 := enc_len_63 (n := s.size) (by omega)
    have h3 : txt (s :: r) = enc s.size ++ s.data.toList ++ txt r := by simp [txt]
    rw [h3, List.length_append, List.length_append, bytes_len, List.length_cons, Nat.add_mul]
    omega
theorem putB_le {ls : List ByteArray} {B : Nat} (h : ∀ s ∈ ls, s.size ≤ B) (hB : B ≤ 9223372036854775807) (hl : ls.length ≤ 9223372036854775807) : (putB ls).length ≤ 9 + ls.length * (9 + B) := by
  have h1 := txt_le9 ls B h hB
  have h2 := enc_len_63 (n := ls.length) (by omega)
  rw [putB, List.length_append]; omega
theorem txT_len (l : List TxD) : (l.flatMap txT).length = l.length * 4 := by
  induction l with
  | nil => rfl
  | cons t l ih => rw [List.flatMap_cons, List.length_append, ih, List.length_cons]; simp [txT]; omega
theorem batchT_len (a n : Int) (l : List TxD) : (batchT a n l).length = 3 + l.length * 4 := by
  simp only [batchT, List.length_cons, txT_len]; omega
theorem batch_size {a n : Int} {l : List TxD} (h : mayB a n l = true) : (∀ s ∈ batchT a n l, s.size ≤ 32) ∧ (batchB a n l).length ≤ 2000 := by
  obtain ⟨h1, h2, h3, h4⟩ := mayB_iff.1 h
  have hs : ∀ s ∈ batchT a n l, s.size ≤ 32 := by
    intro s hs
    simp only [batchT, List.mem_cons, List.mem_flatMap] at hs
    rcases hs with rfl | rfl | rfl | ⟨t, ht, hs⟩
    · decide
    · have := numS_size (n := a) (by omega); omega
    · have := numS_size (n := n) (by omega); omega
    · obtain ⟨g1, g2, g3, g4⟩ := mayTx_iff.1 (h4 t ht)
      simp only [txT, List.mem_cons, List.not_mem_nil, or_false] at hs
      rcases hs with rfl | rfl | rfl | rfl
      · have := numS_size (n := t.s) (by omega); omega
      · have := numS_size (n := t.q) (by omega); omega
      · omega
      · omega
  refine ⟨hs, ?_⟩
  have := putB_le hs (by omega) (by rw [batchT_len]; omega)
  rw [batchT_len] at this
  rw [batchB]; omega

/-- The number that a text is. -/
def wholeN (s : ByteArray) : Option Int :=
  match getN s.data.toList with
  | none => none
  | some (m, k) => if k = s.size then some (m : Int) else none
theorem wholeN_numS {n : Int} (h0 : 0 ≤ n) (h : n ≤ 9223372036854775807) : wholeN (numS n) = some n := by
  have h1 := getN_of n.toNat (by omega) []
  rw [List.append_nil] at h1
  unfold wholeN
  rw [numS, tx_data, h1]
  simp only [tx_size, if_true]
  congr 1; omega
end Go.Proofs.Ytebaojcfmkobjaa
/-
  Headers and certificates: which may be, their bytes: plain facts, over no program.
-/
namespace Go.Proofs.Ytebaojcfmkobjaa
open Go.RowKit

/-- Each above the one ahead? -/
def sortedI : List Int → Bool
  | a :: b :: r => decide (a < b) && sortedI (b :: r)
  | _ => true
/-- All from one number to another one? -/
def betw (lo hi : Int) (l : List Int) : Bool := l.all fun x => decide (lo ≤ x ∧ x ≤ hi)
def rises (lo hi : Int) (l : List Int) : Bool := betw lo hi l && sortedI l
def digs (l : List Int) : Bool := rises 1 65536 l
theorem sortedI_snoc : ∀ (l : List Int) (x : Int), sortedI (l ++ [x]) = (sortedI l && (match l.getLast? with | none => true | some y => decide (y < x)))
  | [], x => rfl
  | [a], x => by simp [sortedI]
  | a :: b :: r, x => by
    have h := sortedI_snoc (b :: r) x
    rw [List.cons_append, List.cons_append, sortedI, ← List.cons_append, h, sortedI, Bool.and_assoc, List.getLast?_cons_cons]
theorem last_take {l : List Int} {k : Nat} {y : Int} (h : l[k]? = some y) : (l.take (k + 1)).getLast? = some y := by
  rw [take_at h, List.getLast?_append]; rfl
theorem sortedI_take : ∀ (l : List Int) (k : Nat), sortedI l = true → sortedI (l.take k) = true
  | [], k, _ => by simp [sortedI]
  | [a], k, _ => by cases k <;> simp [sortedI]
  | a :: b :: r, 0, _ => by simp [sortedI]
  | a :: b :: r, 1, _ => by simp [sortedI]
  | a :: b :: r, k + 2, h => by
    rw [sortedI, Bool.and_eq_true] at h
    have := sortedI_take (b :: r) (k + 1) h.2
    rw [List.take_succ_cons, List.take_succ_cons, sortedI, Bool.and_eq_true]
    rw [List.take_succ_cons] at this
    exact ⟨h.1, this⟩
/-- One more, in order. -/
theorem sortedI_next {l : List Int} {k : Nat} {x y : Int} (hy : l[k]? = some y) (hx : l[k + 1]? = some x) (h : sortedI (l.take (k + 1)) = true) (hlt : y < x) : sortedI (l.take (k + 2)) = true := by
  rw [take_at hx, sortedI_snoc, h, last_take hy]; simpa using hlt
theorem sortedI_bad {l : List Int} {k : Nat} {x y : Int} (hy : l[k]? = some y) (hx : l[k + 1]? = some x) (hlt : ¬ y < x) : sortedI l = false := by
  cases hs : sortedI l with
  | false => rfl
  | true =>
    have := sortedI_take l (k + 2) hs
    rw [take_at hx, sortedI_snoc, last_take hy] at this
    simp [hlt] at this
theorem sortedI_one (l : List Int) : sortedI (l.take 1) = true := by
  match l with
  | [] => rfl
  | a :: r => rfl
theorem betw_iff {lo hi : Int} {l : List Int} : betw lo hi l = true ↔ ∀ x ∈ l, lo ≤ x ∧ x ≤ hi := by simp [betw]
theorem betw_bad {lo hi : Int} {l : List Int} {k : Nat} {x : Int} (hx : l[k]? = some x) (h : ¬ (lo ≤ x ∧ x ≤ hi)) : betw lo hi l = false := by
  cases hb : betw lo hi l with
  | false => rfl
  | true => exact absurd (betw_iff.1 hb x (mem_of_at hx)) h
theorem rises_iff {lo hi : Int} {l : List Int} : rises lo hi l = true ↔ (∀ x ∈ l, lo ≤ x ∧ x ≤ hi) ∧ sortedI l = true := by rw [rises, Bool.and_eq_true, betw_iff]
theorem digs_iff {l : List Int} : digs l = true ↔ (∀ x ∈ l, 1 ≤ x ∧ x ≤ 65536) ∧ sortedI l = true := rises_iff

/-- A header; a certificate. -/
structure HdD where
  a : Int
  r : Int
  bs : List Int
  ps : List Int
theorem HdD.ext_ {x y : HdD} (h1 : x.a = y.a) (h2 : x.r = y.r) (h3 : x.bs = y.bs) (h4 : x.ps = y.ps) : x = y := by
  cases x; cases y; simp_all
instance : DecidableEq HdD := fun x y =>
  decidable_of_iff (x.a = y.a ∧ x.r = y.r ∧ x.bs = y.bs ∧ x.ps = y.ps) ⟨fun ⟨h1, h2, h3, h4⟩ => HdD.ext_ h1 h2 h3 h4, fun h => by subst h; exact ⟨rfl, rfl, rfl, rfl⟩⟩
structure CtD where
  h : HdD
  d : Int
  ss : List Int
theorem CtD.ext_ {x y : CtD} (h1 : x.h = y.h) (h2 : x.d = y.d) (h3 : x.ss = y.ss) : x = y := by
  cases x; cases y; simp_all
instance : DecidableEq CtD := fun x y =>
  decidable_of_iff (x.h = y.h ∧ x.d = y.d ∧ x.ss = y.ss) ⟨fun ⟨h1, h2, h3⟩ => CtD.ext_ h1 h2 h3, fun h => by subst h; exact ⟨rfl, rfl, rfl⟩⟩

/-- A committee of so many nodes; how many are enough of it. -/
def isC (n : Int) : Bool := decide (1 ≤ n ∧ n ≤ 16 ∧ n % 3 = 1)
def qC (n : Int) : Int := 2 * (n / 3) + 1
theorem isC_iff {n : Int} : isC n = true ↔ 1 ≤ n ∧ n ≤ 16 ∧ n % 3 = 1 := by simp [isC]
/-- Among n nodes, but for how many parents there are. -/
def formH (n : Int) (x : HdD) : Bool :=
  decide (1 ≤ x.a ∧ x.a ≤ n) && (decide (1 ≤ x.r ∧ x.r ≤ 1099511627776) && (decide (x.bs.length ≤ 8) && (digs x.bs && (digs x.ps && (decide ((x.ps.length : Int) ≤ n) && decide (1 < x.r ∨ x.ps.length = 0))))))
theorem formH_iff {n : Int} {x : HdD} : formH n x = true ↔ (1 ≤ x.a ∧ x.a ≤ n) ∧ (1 ≤ x.r ∧ x.r ≤ 1099511627776) ∧ x.bs.length ≤ 8 ∧ digs x.bs = true ∧ digs x.ps = true ∧ (x.ps.length : Int) ≤ n ∧ (1 < x.r ∨ x.ps.length = 0) := by
  simp [formH]
def mayH (n : Int) (x : HdD) : Bool := isC n && (formH n x && decide (x.r = 1 ∨ qC n ≤ (x.ps.length : Int)))
theorem mayH_iff {n : Int} {x : HdD} : mayH n x = true ↔ isC n = true ∧ formH n x = true ∧ (x.r = 1 ∨ qC n ≤ (x.ps.length : Int)) := by simp [mayH]
def digO (d : Int) : Bool := decide (1 ≤ d ∧ d ≤ 65536)
theorem digO_iff {d : Int} : digO d = true ↔ 1 ≤ d ∧ d ≤ 65536 := by simp [digO]
def mayC (n : Int) (x : CtD) : Bool := mayH n x.h && (digO x.d && (rises 1 n x.ss && decide (qC n ≤ (x.ss.length : Int))))
theorem mayC_iff {n : Int} {x : CtD} : mayC n x = true ↔ mayH n x.h = true ∧ digO x.d = true ∧ rises 1 n x.ss = true ∧ qC n ≤ (x.ss.length : Int) := by simp [mayC]

/-- A header's texts, its bytes. -/
def headerW : ByteArray := ⟨#[104, 101, 97, 100, 101, 114]⟩
def headerT (x : HdD) : List ByteArray := [headerW, numS x.a, numS x.r, tx (numsB x.bs), tx (numsB x.ps)]
def headerB (x : HdD) : List UInt8 := putB (headerT x)
theorem nums_le (l : List Int) (h : ∀ x ∈ l, x ≤ 65536) : (nums l).length ≤ 3 * l.length := by
  induction l with
  | nil => simp [nums]
  | cons a l ih =>
    have h1 := ih (fun x hx => h x (by simp [hx]))
    have h2 := h a (by simp)
    have h3 := enc_len_le 2 a.toNat (by omega)
    have e : nums (a :: l) = enc a.toNat ++ nums l := by simp [nums]
    rw [e, List.length_append, List.length_cons]; omega
theorem numsB_le {l : List Int} (h : ∀ x ∈ l, x ≤ 65536) (hl : l.length ≤ 16) : (numsB l).length ≤ 49 := by
  have h1 := nums_le l h
  have h2 := enc_len_le 0 l.length (by omega)
  rw [numsB, List.length_append]; omega
theorem header_size {x : HdD} (h : formH 16 x = true) : (∀ s ∈ headerT x, s.size ≤ 49) ∧ (headerB x).length ≤ 300 ∧ (numsB x.bs).length ≤ 49 ∧ (numsB x.ps).length ≤ 49 := by
  obtain ⟨h1, h2, h3, h4, h5, h6, h7⟩ := formH_iff.1 h
  have g1 := numsB_le (fun y hy => ((digs_iff.1 h4).1 y hy).2) (by omega)
  have g2 := numsB_le (fun y hy => ((digs_iff.1 h5).1 y hy).2) (by omega)
  have hs : ∀ s ∈ headerT x, s.size ≤ 49 := by
    intro s hs
    simp only [headerT, List.mem_cons, List.not_mem_nil, or_false] at hs
    rcases hs with rfl | rfl | rfl | rfl | rfl
    · decide
    · have := numS_size (n := x.a) (by omega); omega
    · have := numS_size (n := x.r) (by omega); omega
    · rw [tx_size]; exact g1
    · rw [tx_size]; exact g2
  have := putB_le hs (by omega) (by simp [headerT])
  refine ⟨hs, ?_, g1, g2⟩
  rw [headerB]
  simp [headerT] at this ⊢
  omega
/-- The header that texts are, that bytes are. -/
def rdH (ls : List ByteArray) : Option HdD :=
  match ls with
  | [w, a, r, x, y] =>
    if w = headerW then
      match wholeN a, wholeN r, getI x.data.toList, getI y.data.toList with
      | some a, some r, some x, some y => if formH 16 ⟨a, r, x, y⟩ = true then some ⟨a, r, x, y⟩ else none
      | _, _, _, _ => none
    else none
  | _ => none
def parseH (bs : List UInt8) : Option HdD :=
  match getT bs with
  | none => none
  | some ls => rdH ls
theorem getI_there {l : List Int} (h : digs l = true) (hl : l.length ≤ 16) : getI (numsB l) = some l := by
  have h0 := (digs_iff.1 h).1
  have h1 := numsB_le (fun y hy => (h0 y hy).2) hl
  exact getL_there codecI (fun x hx => by have := h0 x hx; omega) (by rw [putL_I]; omega)
theorem rdH_there {x : HdD} (h : formH 16 x = true) : rdH (headerT x) = some x := by
  obtain ⟨h1, h2, h3, h4, h5, h6, h7⟩ := formH_iff.1 h
  unfold rdH headerT
  simp only [if_true, tx_data]
  rw [wholeN_numS (by omega) (by omega), wholeN_numS (by omega) (by omega), getI_there h4 (by omega), getI_there h5 (by omega)]
  simp only
  rw [if_pos h]
section
variable {x y : HdD}
theorem header_dom (h : formH 16 x = true) : (∀ s ∈ headerT x, s.size ≤ 9223372036854775807) ∧ (putL encT (headerT x)).length ≤ 1048576 := by
  obtain ⟨h1, h2, _⟩ := header_size h
  exact ⟨fun s hs => by have := h1 s hs; omega, by rw [putL_T]; show (headerB x).length ≤ _; omega⟩
theorem parseH_there (h : formH 16 x = true) : parseH (headerB x) = some x := by
  obtain ⟨h1, h2⟩ := header_dom h
  unfold parseH
  rw [show getT (headerB x) = some (headerT x) from getL_there codecT h1 h2]
  exact rdH_there h
end
end Go.Proofs.Ytebaojcfmkobjaa
/-
  Contracts of the reference's laying of numbers and texts as bytes.
-/
namespace Go.Proofs.Ytebaojcfmkobjaa
open Go.RowKit

set_option maxRecDepth 100000 in
set_option maxHeartbeats 1000000 in
theorem ref2_Nums_yes {A : Option Addr} {n c : Nat} {xs : List Int} (w : World) (hs : Sl w 1 A n (ints xs)) (hn : n ≤ 1099511627776) (h0 : ∀ x ∈ xs, 0 ≤ x ∧ x ≤ 9223372036854775807) (hb : (numsB xs).length ≤ 1048576) :
    Calls Try.prog 57 #[.slice A n c] w fun e w' => ∃ v', e = .returned (.tuple #[v', .bool true]) ∧ w'.ownsRow w.heap.size 5 1 v' (numsB xs).length (bytes8 (numsB xs)) ∧ Below w.heap.size w w' := by
  have HL := hide hs.ilen
  have HB := hide hb
  have H0 := hide h0
  clear hb h0
  obtain ⟨i0, hi, hz0, hz1, hz2⟩ := info_parts Try.infoByte
  go_enter Try.func57, Try.ntmps57
  go_wp2_with (go_at_call 81; refine (ref2_Num n _ (by omega)).mono ?_; rintro e w1 ⟨v1, rfl, hown1, hb1⟩)
  have hz1' := hb1.size
  go_loopw [4, 5] (fun b i wr => ∃ (k : Nat) (ys : List UInt8), k ≤ n ∧ i = .int .i64 k ∧ Hid (enc n ++ nums (xs.take k) = ys) ∧ ys.length ≤ 1048576 ∧ wr.ownsRow w.heap.size 5 1 b ys.length (bytes8 ys) ∧ Below w.heap.size w wr) (fun _ i _ => n - (intOf i).toNat)
  case atStart => exact ⟨0, enc n, Nat.zero_le _, rfl, by simp [Hid, nums], by have := enc_len_63 (n := n) (by omega); omega, hown1, hb1⟩
  case round =>
    obtain ⟨k, ys, hk, rfl, HY, hyl, hown, hb⟩ := hrel
    have hsz := hb.size
    have hTot : Hid ((enc n ++ nums xs).length ≤ 1048576) := by have := HB.out; rw [numsB, HL.out] at this; exact this
    clear hown1 hb1 hz1'
    obtain ⟨wo, rfl⟩ : ∃ wo : World, wo = wr := ⟨_, rfl⟩
    obtain ⟨A2, c2, rfl⟩ := own_slice hown
    by_cases hlt : k < n
    · obtain ⟨b, off, u, rfl, HU, hc, _⟩ := hs.int hlt
      have hc' := cell_later hb hc
      obtain ⟨hu0, hu1⟩ := H0.out u (List.mem_of_getElem? HU.out)
      obtain ⟨m, rfl⟩ : ∃ m : Nat, u = (m : Int) := ⟨u.toNat, by omega⟩
      have hm : m ≤ 9223372036854775807 := by omega
      clear hc hs hu0 hu1
      have HQ : Hid (enc n ++ nums (xs.take (k + 1)) = ys ++ enc m) := by
        rw [Hid, nums_take HU.out, ← HY.out]; simp
      have hq : (ys ++ enc m).length ≤ 1048576 := by
        have h2 := congrArg List.length HQ.out
        have h3 := nums_take_le xs (k + 1)
        have h4 := hTot.out
        rw [List.length_append] at h2 h4
        omega
      have hel := enc_len_63 (n := m) (by omega)
      go_wp2_with (first
        | (go_at_call 81; refine (ref2_Num m _ hm).mono ?_; rintro e w2 ⟨v2, rfl, hown2, hb2⟩; obtain ⟨A3, c3, rfl⟩ := own_slice hown2; have hown3 : w2.ownsRow w.heap.size 5 1 (.slice A2 ys.length c2) ys.length (bytes8 ys) := own_later hown hb2)
        | (at_builtin; refine wpList_append_any _ rfl _ _ 60 rfl w.heap.size 5 i0 (.int .u8 0) 1 1 Try.underlying60 hi hz0 hz1 hz2 rfl (by decide) _ _ _ rfl hown3 A3 _ c3 (bytes8 (enc m)) rfl (Sl.of_own hown2) (bytes8_one _) ?c1 ?c2 ?c3 ?_))
      case c1 => unfold maxLen; omega
      case c2 => omega
      case c3 => have := hb2.size; omega
      intro v3 w3 hown4 hg
      have hb3 := hb.trans (hb2.mono hsz)
      have hb4 : Below w.heap.size w w3 := hb3.grown hg (by have := hb2.size; omega) (fun g hg' => (hown3.lt g hg').1)
      rw [← bytes8_append, ← List.length_append] at hown4
      clear hown3 hg hown2 hb3 hown hb hb2 hel
      go_wp2_with fail
      go_roundw
      case rel => exact ⟨k + 1, _, by omega, by go_num, HQ, hq, hown4, hb4⟩
      case measure => simp [intOf]; omega
    · obtain rfl : k = n := by omega
      have HF : Hid (ys = numsB xs) := by
        have h := HY.out
        rw [List.take_of_length_le (by rw [HL.out]; exact Nat.le_refl _)] at h
        rw [Hid, numsB, HL.out, h]
      have hd : decide ((ys.length : Int) ≤ 1048576) = true := by rw [decide_eq_true_eq]; omega
      go_wp2_with fail
      go_ret2
      refine ⟨_, rfl, ?_, hb⟩
      rw [← HF.out]
      exact hown

set_option maxRecDepth 100000 in
set_option maxHeartbeats 1000000 in
theorem ref2_Put {A : Option Addr} {n c : Nat} {ls : List ByteArray} (w : World) (hs : Sl w 1 A n (strs ls)) (hn : n ≤ 1099511627776) (hb : (putB ls).length ≤ 1048576) :
    Calls Try.prog 58 #[.slice A n c] w fun e w' => ∃ v', e = .returned (.tuple #[v', .bool true]) ∧ w'.ownsRow w.heap.size 5 1 v' (putB ls).length (bytes8 (putB ls)) ∧ Below w.heap.size w w' := by
  have HL := hide hs.slen
  have HB := hide hb
  clear hb
  obtain ⟨i0, hi, hz0, hz1, hz2⟩ := info_parts Try.infoByte
  go_enter Try.func58, Try.ntmps58
  go_wp2_with (go_at_call 81; refine (ref2_Num n _ (by omega)).mono ?_; rintro e w1 ⟨v1, rfl, hown1, hb1⟩)
  have hz1' := hb1.size
  go_loopw [4, 5] (fun b i wr => ∃ (k : Nat) (ys : List UInt8), k ≤ n ∧ i = .int .i64 k ∧ Hid (enc n ++ txt (ls.take k) = ys) ∧ ys.length ≤ 1048576 ∧ wr.ownsRow w.heap.size 5 1 b ys.length (bytes8 ys) ∧ Below w.heap.size w wr) (fun _ i _ => n - (intOf i).toNat)
  case atStart => exact ⟨0, enc n, Nat.zero_le _, rfl, by simp [Hid, txt_nil], by have := enc_len_63 (n := n) (by omega); omega, hown1, hb1⟩
  case round =>
    obtain ⟨k, ys, hk, rfl, HY, hyl, hown, hb⟩ := hrel
    have hsz := hb.size
    have hTot : Hid ((enc n ++ txt ls).length ≤ 1048576) := by have := HB.out; rw [putB, HL.out] at this; exact this
    clear hown1 hb1 hz1'
    obtain ⟨wo, rfl⟩ : ∃ wo : World, wo = wr := ⟨_, rfl⟩
    obtain ⟨A2, c2, rfl⟩ := own_slice hown
    by_cases hlt : k < n
    · obtain ⟨b, off, u, rfl, HU, hc, _⟩ := hs.str hlt
      have hc' := cell_later hb hc
      clear hs
      obtain ⟨zs, HZ⟩ : ∃ zs, Hid (ys ++ enc u.size = zs) := ⟨_, rfl⟩
      have HQ : Hid (enc n ++ txt (ls.take (k + 1)) = zs ++ u.data.toList) := by
        rw [Hid, txt_take HU.out, ← HZ.out, ← HY.out]; simp
      have hq : zs.length + u.size ≤ 1048576 := by
        have h2 := congrArg List.length HQ.out
        have h3 := txt_take_le ls (k + 1)
        have h4 := hTot.out
        rw [List.length_append, List.length_append, bytes_len] at h2
        rw [List.length_append] at h4
        omega
      have hel := enc_len_63 (n := u.size) (by omega)
      go_wp2_with (first
        | (go_at_call 81; refine (ref2_Num u.size _ (by omega)).mono ?_; rintro e w2 ⟨v2, rfl, hown2, hb2⟩; obtain ⟨A3, c3, rfl⟩ := own_slice hown2; have hown3 : w2.ownsRow w.heap.size 5 1 (.slice A2 ys.length c2) ys.length (bytes8 ys) := own_later hown hb2)
        | (at_builtin; refine wpList_append_any _ rfl _ _ 60 rfl w.heap.size 5 i0 (.int .u8 0) 1 1 Try.underlying60 hi hz0 hz1 hz2 rfl (by decide) _ _ _ rfl hown3 A3 _ c3 (bytes8 (enc u.size)) rfl (Sl.of_own hown2) (bytes8_one _) ?c1 ?c2 ?c3 ?_))
      case c1 => unfold maxLen; omega
      case c2 => omega
      case c3 => have := hb2.size; omega
      intro v3 w3 hown4 hg
      have hb3 := hb.trans (hb2.mono hsz)
      have hb4 : Below w.heap.size w w3 := hb3.grown hg (by have := hb2.size; omega) (fun g hg' => (hown3.lt g hg').1)
      rw [← bytes8_append, ← List.length_append, HZ.out] at hown4
      have hc4 := cell_later hb4 hc
      clear hown3 hg hown2 hb3 hown hb hb2 hel hc hc'
      obtain ⟨A5, c5, rfl⟩ := own_slice hown4
      obtain ⟨cap, w4, HCV, s4, hb5⟩ := conv_bytes (P := Try.prog) w3 9 60 5 u Try.underlying9 Try.underlying60 Try.underlying5
      have hown5 := own_later hown4 hb5
      have hsz4 := hb4.size
      have hsz5 := hb5.size
      go_wp2_with (at_builtin; refine wpList_append_any _ rfl _ _ 60 rfl w.heap.size 5 i0 (.int .u8 0) 1 1 Try.underlying60 hi hz0 hz1 hz2 rfl (by decide) _ _ _ rfl hown5 _ _ cap (bytes8 u.data.toList) rfl s4 (bytes8_one _) ?d1 ?d2 ?d3 ?_)
      case d1 => unfold maxLen; omega
      case d2 => omega
      case d3 => omega
      intro v6 w6 hown6 hg6
      have hb7 : Below w.heap.size w w6 := (hb4.trans (hb5.mono hsz4)).grown hg6 (by omega) (fun g hg' => (hown5.lt g hg').1)
      have hfl : (zs ++ u.data.toList).length ≤ 1048576 := by rw [List.length_append, bytes_len]; exact hq
      have hown7 : w6.ownsRow w.heap.size 5 1 v6 (zs ++ u.data.toList).length (bytes8 (zs ++ u.data.toList)) := by rw [bytes8_append, List.length_append, bytes_len]; exact hown6
      obtain ⟨L, HLL⟩ : ∃ L, Hid ((zs ++ u.data.toList).length = L) := ⟨_, rfl⟩
      rw [HLL.out] at hown7 hfl
      obtain ⟨A7, c7, rfl⟩ := own_slice hown7
      have hd : decide ((1048576 : Int) < (L : Int)) = false := by rw [decide_eq_false_iff_not]; omega
      have HFL := hide hfl
      clear hfl hown6 hg6 hown5 hown4 hb4 hb5 s4 HCV hq
      go_wp2_with fail
      go_roundw
      case rel => exact ⟨k + 1, _, by omega, by go_num, HQ, by rw [HLL.out]; exact HFL.out, by rw [HLL.out]; exact hown7, hb7⟩
      case measure => simp [intOf]; omega
    · obtain rfl : k = n := by omega
      have HF : Hid (ys = putB ls) := by
        have h := HY.out
        rw [List.take_of_length_le (by rw [HL.out]; exact Nat.le_refl _)] at h
        rw [Hid, putB, HL.out, h]
      have hd : decide ((ys.length : Int) ≤ 1048576) = true := by rw [decide_eq_true_eq]; omega
      go_wp2_with fail
      go_ret2
      refine ⟨_, rfl, ?_, hb⟩
      rw [← HF.out]
      exact hown
end Go.Proofs.Ytebaojcfmkobjaa
/-
  Contract of the reference's laying of numbers of which one is below 0.
-/
namespace Go.Proofs.Ytebaojcfmkobjaa
open Go.RowKit

end Go.Proofs.Ytebaojcfmkobjaa
/-
  Contracts of wire's reader: a number, a count, a text.
-/
namespace Go.Proofs.Ytebaojcfmkobjaa
open Go.RowKit

end Go.Proofs.Ytebaojcfmkobjaa
/-
  Small words on texts as cells.
-/
namespace Go.Proofs.Ytebaojcfmkobjaa
open Go.RowKit

theorem one_str (s : ByteArray) : ∀ u ∈ [Value.string s], u.oneCell' = true := by intro u hu; simp at hu; subst hu; rfl
theorem Try.infoStr : (Try.prog.info? 9).map (fun i => (i.zero, i.size, i.bytes)) = some (some (.string ByteArray.empty), 1, 16) := by kernel_rfl
end Go.Proofs.Ytebaojcfmkobjaa
/-
  Contracts of reading texts and numbers: wire's own: what bytes are read as, or none.
-/
namespace Go.Proofs.Ytebaojcfmkobjaa
open Go.RowKit

theorem Try.infoInt : (Try.prog.info? 3).map (fun i => (i.zero, i.size, i.bytes)) = some (some (.int .i64 0), 1, 8) := by kernel_rfl
end Go.Proofs.Ytebaojcfmkobjaa
/-
  Contracts of the reference's reading of texts and numbers.
-/
namespace Go.Proofs.Ytebaojcfmkobjaa
open Go.RowKit

/-- The reference's end: what was read, and whether that is all. -/
def EndL {α : Type} (t : TypeId) (f : α → Value) (o : Option (List α)) (w : World) (e : Ending) (w' : World) : Prop :=
  match o with
  | some l => ∃ v, e = .returned (.tuple #[v, .bool true]) ∧ w'.ownsRow w.heap.size t 1 v l.length (l.map f) ∧ Below w.heap.size w w'
  | none => ∃ v, e = .returned (.tuple #[v, .bool false]) ∧ (∃ A n c, v = .slice A n c) ∧ Below w.heap.size w w'
theorem EndL.no {α : Type} {t : TypeId} {f : α → Value} {o : Option (List α)} {w w' : World} (ho : o = none) (hb : Below w.heap.size w w') (v : Value) (hv : ∃ A n c, v = .slice A n c := by exact ⟨_, _, _, rfl⟩) : EndL t f o w (.returned (.tuple #[v, .bool false])) w' := by
  subst ho; exact ⟨v, rfl, hv, hb⟩
theorem EndL.yes {α : Type} {t : TypeId} {f : α → Value} {o : Option (List α)} {l : List α} {w w' : World} (ho : o = some l) (hb : Below w.heap.size w w') {v : Value} (h : w'.ownsRow w.heap.size t 1 v l.length (l.map f)) : EndL t f o w (.returned (.tuple #[v, .bool true])) w' := by
  subst ho; exact ⟨v, rfl, h, hb⟩
theorem EndL.two {α : Type} {t : TypeId} {f : α → Value} {o : Option (List α)} {b : Bool} {w w' : World} {v : Value} (hv : ∃ A n c, v = .slice A n c) (hb : Below w.heap.size w w') (h1 : b = false → o = none) (h2 : b = true → ∃ l, o = some l ∧ w'.ownsRow w.heap.size t 1 v l.length (l.map f)) : EndL t f o w (.returned (.tuple #[v, .bool b])) w' := by
  cases b with
  | false => exact EndL.no (h1 rfl) hb v hv
  | true =>
    obtain ⟨l, h3, h4⟩ := h2 rfl
    exact EndL.yes h3 hb h4
/-- What is left to read, behind those that have been read. -/
def Lf {α : Type} (one : List UInt8 → Option (α × List UInt8)) (bs : List UInt8) (o : Option (List α)) (j at_ : Nat) (ys : List α) : Prop :=
  at_ ≤ bs.length ∧ o = (rdL one j (bs.drop at_)).map (ys ++ ·)
theorem Lf.fail {α : Type} {one : List UInt8 → Option (α × List UInt8)} {bs : List UInt8} {o : Option (List α)} {j a : Nat} {ys : List α} (h : Lf one bs o (j + 1) a ys) (hn : one (bs.drop a) = none) : o = none := by
  rw [h.2, rdL, hn]; rfl
theorem Lf.next {α : Type} {one : List UInt8 → Option (α × List UInt8)} {bs : List UInt8} {o : Option (List α)} {j a a' : Nat} {ys : List α} {x : α} (h : Lf one bs o (j + 1) a ys) (hn : one (bs.drop a) = some (x, bs.drop a')) (ha : a' ≤ bs.length) : Lf one bs o j a' (ys ++ [x]) := by
  refine ⟨ha, ?_⟩
  rw [h.2, rdL, hn]
  simp only
  cases rdL one j (bs.drop a') with
  | none => rfl
  | some l => simp
end Go.Proofs.Ytebaojcfmkobjaa
