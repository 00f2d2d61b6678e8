/-
  Texts joined: words and contracts that later texts use; lemmas alone, no conditions of a statement.
-/
import Derived.Test.YtflamhndmggiaaaGr00
import Derived.Maps.AppendAt
import Derived.Test.YtflamhndmggiaaaGr02
import Derived.Laws.IdiomStrings
import Derived.Laws.BytesArg
import Derived.Test.YtflamhndmggiaaaGr01
set_option linter.unusedVariables false
set_option linter.unusedSimpArgs false
/-
  append of any slice, of no elements too: at a plain region's list, at a step of a region that draws.
-/
namespace Go.Proofs.Ytflamhndmggiaaa
open Go.RowKit

section
variable {P : Program} (w : World)
theorem run_append_any (base : Nat) (t ty e : TypeId) (i : TypeInfo) (z : Value) (size bytes : Nat) (ht : P.underlying t = some (.slice e)) (hi : P.info? e = some i) (hz : i.zero = some z)
    (hsize : i.size = size) (hby : i.bytes = bytes) (hzs : z.cells.size = size) (hsz : 0 < size)
    (v : Value) (n : Nat) (xs : List Value) (hown : w.ownsRow base e size v n xs)
    (A : Option Addr) (m c : Nat) (news : List Value) (hsl : Sl w size A m news) (h1 : ∀ u ∈ news, u.oneCell' = true)
    (h63 : n + m ≤ maxLen) (hbytes : (n + m) * bytes ≤ 140737488355328) (hbase : base ≤ w.heap.size) :
    ∃ v' w', (Builtin.append_ #[t, t] ty #[v, .slice A m c]).run P w = .ok v' w' ∧ w'.ownsRow base e size v' (n + m) (xs ++ news) ∧ w.grownBy w' v.ownBlock := by
  have some_ : ∀ a : Addr, A = some a → ∃ v' w', (Builtin.append_ #[t, t] ty #[v, .slice A m c]).run P w = .ok v' w' ∧ w'.ownsRow base e size v' (n + m) (xs ++ news) ∧ w.grownBy w' v.ownBlock := by
    rintro a rfl
    obtain ⟨v', w', h2, h3, h4, _⟩ := run_append_own (P := P) w base t ty e i z size bytes ht hi hz hsize hby hzs hsz v n xs hown a m c news hsl.1 (by
      intro j u hu
      have hm : 0 < m := by
        rcases Nat.eq_zero_or_pos m with rfl | h
        · have := hsl.1
          rw [Nat.zero_mul] at this
          have := List.eq_nil_of_length_eq_zero this
          subst this
          simp at hu
        · exact h
      obtain ⟨b, off, hA, _, hc⟩ := hsl.2 hm
      injection hA with hA
      subst hA
      rw [add_lit]
      exact hc j u hu) h1 h63 hbytes hbase
    exact ⟨v', w', h2, h3, h4⟩
  cases hA : A with
  | some a => rw [← hA]; exact some_ a hA
  | none =>
    have hm : m = 0 := by
      rcases Nat.eq_zero_or_pos m with h | h
      · exact h
      · obtain ⟨b, off, hA', _⟩ := hsl.2 h
        rw [hA] at hA'
        cases hA'
    subst hm
    have hn : news = [] := List.eq_nil_of_length_eq_zero (by simpa using hsl.1)
    subst hn
    refine ⟨v, w, ?_, by simpa using hown, ⟨rfl, rfl, rfl, Nat.le_refl _, fun _ _ _ => rfl⟩⟩
    rcases hown.2 with ⟨rfl, rfl⟩ | ⟨g, cap, cur, rfl, hbg, hg, hnc, hcm, hcs, htake⟩
    · simp [Builtin.append_, run_underlying ht, sizeOf, typeInfo, hi, Builtin.lenOf, Builtin.firstCells, loadCells, loadCellsFrom]
    · simp [Builtin.append_, run_underlying ht, sizeOf, typeInfo, hi, Builtin.lenOf, Builtin.firstCells, loadCells, loadCellsFrom, hnc, storeCells]

theorem wp_append_any {o : Oper} {a : Act} {K : Act → World → Prop} {Q : Exit → Act → World → Prop} (s x : Operand) (t : TypeId)
    (ho : o.op = .call { callee := .builtin .append, args := #[s, x], argTypes := #[t, t] })
    (base : Nat) (e : TypeId) (i : TypeInfo) (z : Value) (size bytes : Nat) (ht : P.underlying t = some (.slice e)) (hi : P.info? e = some i) (hz : i.zero = some z)
    (hsize : i.size = size) (hby : i.bytes = bytes) (hzs : z.cells.size = size) (hsz : 0 < size)
    (v : Value) (n : Nat) (xs : List Value) (hs : a.eval s = v) (hown : w.ownsRow base e size v n xs)
    (A : Option Addr) (m c : Nat) (news : List Value) (hx : a.eval x = .slice A m c) (hsl : Sl w size A m news) (h1 : ∀ u ∈ news, u.oneCell' = true)
    (h63 : n + m ≤ maxLen) (hbytes : (n + m) * bytes ≤ 140737488355328) (hbase : base ≤ w.heap.size)
    (h : ∀ v' w', w'.ownsRow base e size v' (n + m) (xs ++ news) → w.grownBy w' v.ownBlock → K (a.put o.dst v') w') : o.wp P a w K Q := by
  obtain ⟨v', w', hr, h2, h3⟩ := run_append_any (P := P) w base t o.type e i z size bytes ht hi hz hsize hby hzs hsz v n xs hown A m c news hsl h1 h63 hbytes hbase
  unfold Oper.wp execOp
  simp only [ho, resolve, invoke, builtin, Sem.run_bind, Sem.run_pure, Result.andThen_ok, List.map_toArray, List.map_cons, List.map_nil, hs, hx, hr]
  exact h v' w' h2 h3

theorem wpList_append_any {ops : Array Oper} {rest : List Oper} {o : Oper} {a : Act} {Q : Exit → Act → World → Prop} (hgd : o.guard = none) (s x : Operand) (t : TypeId)
    (ho : o.op = .call { callee := .builtin .append, args := #[s, x], argTypes := #[t, t] })
    (base : Nat) (e : TypeId) (i : TypeInfo) (z : Value) (size bytes : Nat) (ht : P.underlying t = some (.slice e)) (hi : P.info? e = some i) (hz : i.zero = some z)
    (hsize : i.size = size) (hby : i.bytes = bytes) (hzs : z.cells.size = size) (hsz : 0 < size)
    (v : Value) (n : Nat) (xs : List Value) (hs : a.eval s = v) (hown : w.ownsRow base e size v n xs)
    (A : Option Addr) (m c : Nat) (news : List Value) (hx : a.eval x = .slice A m c) (hsl : Sl w size A m news) (h1 : ∀ u ∈ news, u.oneCell' = true)
    (h63 : n + m ≤ maxLen) (hbytes : (n + m) * bytes ≤ 140737488355328) (hbase : base ≤ w.heap.size)
    (h : ∀ v' w', w'.ownsRow base e size v' (n + m) (xs ++ news) → w.grownBy w' v.ownBlock → wpList P ops Q rest (a.put o.dst v') w') : wpList P ops Q (o :: rest) a w :=
  wpList_plain hgd fun _ hK => wp_append_any w s x t ho base e i z size bytes ht hi hz hsize hby hzs hsz v n xs hs hown A m c news hx hsl h1 h63 hbytes hbase fun v' w' h2 h3 => hK _ _ (h v' w' h2 h3)

theorem step_append_any {ops : Array Oper} {o : Oper} {a : Act} {K : Act → World → Prop} {Q : Exit → Act → World → Prop} {E : Prop} (hgd : o.guard = none) (s x : Operand) (t : TypeId)
    (ho : o.op = .call { callee := .builtin .append, args := #[s, x], argTypes := #[t, t] })
    (base : Nat) (e : TypeId) (i : TypeInfo) (z : Value) (size bytes : Nat) (ht : P.underlying t = some (.slice e)) (hi : P.info? e = some i) (hz : i.zero = some z)
    (hsize : i.size = size) (hby : i.bytes = bytes) (hzs : z.cells.size = size) (hsz : 0 < size)
    (v : Value) (n : Nat) (xs : List Value) (hs : a.eval s = v) (hown : w.ownsRow base e size v n xs)
    (A : Option Addr) (m c : Nat) (news : List Value) (hx : a.eval x = .slice A m c) (hsl : Sl w size A m news) (h1 : ∀ u ∈ news, u.oneCell' = true)
    (h63 : n + m ≤ maxLen) (hbytes : (n + m) * bytes ≤ 140737488355328) (hbase : base ≤ w.heap.size)
    (h : ∀ v' w', w'.ownsRow base e size v' (n + m) (xs ++ news) → w.grownBy w' v.ownBlock → K (a.put o.dst v') w') :
    if Region.wanted o (yielded ops a.tmps) = true then Oper.wp P o a w K Q else E := by
  have hw : Region.wanted o (yielded ops a.tmps) = true := by simp [Region.wanted, hgd]
  rw [if_pos hw]
  exact wp_append_any w s x t ho base e i z size bytes ht hi hz hsize hby hzs hsz v n xs hs hown A m c news hx hsl h1 h63 hbytes hbase h
end
/-- Cells of one kind are one cell each. -/
theorem ints_one (xs : List Int) : ∀ u ∈ ints xs, u.oneCell' = true := by
  intro u hu
  obtain ⟨x, _, rfl⟩ := List.mem_map.mp hu
  rfl
theorem strs_one (xs : List ByteArray) : ∀ u ∈ strs xs, u.oneCell' = true := by
  intro u hu
  obtain ⟨x, _, rfl⟩ := List.mem_map.mp hu
  rfl
theorem bytes8_one (xs : List UInt8) : ∀ u ∈ bytes8 xs, u.oneCell' = true := by
  intro u hu
  obtain ⟨x, _, rfl⟩ := List.mem_map.mp hu
  rfl
end Go.Proofs.Ytflamhndmggiaaa
/-
  Conversions between bytes and texts: at a plain region's list, at a step of a region that draws.
-/
namespace Go.Proofs.Ytflamhndmggiaaa
open Go.RowKit

section
variable {P : Program} (w : World)
theorem run_str_of_bytes (src dst e : TypeId) (hs : P.underlying src = some (.slice e)) (he : P.underlying e = some (.int .u8)) (hd : P.underlying dst = some .string) {A : Option Addr} {n c : Nat} {bs : List UInt8}
    (hsl : Sl w 1 A n (bytes8 bs)) : (convert src dst (.slice A n c)).run P w = .ok (.string (tx bs)) w := by
  have hl := hsl.blen
  cases A with
  | none =>
    have h0 : n = 0 := by
      rcases Nat.eq_zero_or_pos n with h | h
      · exact h
      · obtain ⟨b, off, e, _⟩ := hsl.2 h
        cases e
    subst h0
    have hb : bs = [] := List.eq_nil_of_length_eq_zero hl
    subst hb
    exact run_convert_bytes_nil w src e hs he 0 c dst hd
  | some a =>
    subst hl
    refine run_convert_bytes_back w src dst e a c bs hs he hd ?_
    intro j hj
    obtain ⟨b, off, e, _, hc⟩ := hsl.2 (by omega)
    injection e with e
    subst e
    rw [add_lit]
    exact hc j _ (by simp [bytes8, List.getElem?_eq_getElem hj])
theorem wp_conv_str {o : Oper} {a : Act} {K : Act → World → Prop} {Q : Exit → Act → World → Prop} (x : Operand) (src dst e : TypeId) (ho : o.op = .convert src dst x)
    (hs : P.underlying src = some (.slice e)) (he : P.underlying e = some (.int .u8)) (hd : P.underlying dst = some .string) (A : Option Addr) (n c : Nat) (bs : List UInt8) (hx : a.eval x = .slice A n c)
    (hsl : Sl w 1 A n (bytes8 bs)) (h : K (a.put o.dst (.string (tx bs))) w) : o.wp P a w K Q := by
  unfold Oper.wp execOp
  simp only [ho, hx, Sem.run_bind, Sem.run_pure, Result.andThen_ok, run_str_of_bytes w src dst e hs he hd hsl]
  exact h
theorem wpList_conv_str {ops : Array Oper} {rest : List Oper} {o : Oper} {a : Act} {Q : Exit → Act → World → Prop} (hgd : o.guard = none) (x : Operand) (src dst e : TypeId) (ho : o.op = .convert src dst x)
    (hs : P.underlying src = some (.slice e)) (he : P.underlying e = some (.int .u8)) (hd : P.underlying dst = some .string) (A : Option Addr) (n c : Nat) (bs : List UInt8) (hx : a.eval x = .slice A n c)
    (hsl : Sl w 1 A n (bytes8 bs)) (h : wpList P ops Q rest (a.put o.dst (.string (tx bs))) w) : wpList P ops Q (o :: rest) a w :=
  wpList_plain hgd fun _ hK => wp_conv_str w x src dst e ho hs he hd A n c bs hx hsl (hK _ _ h)
theorem step_conv_str {ops : Array Oper} {o : Oper} {a : Act} {K : Act → World → Prop} {Q : Exit → Act → World → Prop} {E : Prop} (hgd : o.guard = none) (x : Operand) (src dst e : TypeId) (ho : o.op = .convert src dst x)
    (hs : P.underlying src = some (.slice e)) (he : P.underlying e = some (.int .u8)) (hd : P.underlying dst = some .string) (A : Option Addr) (n c : Nat) (bs : List UInt8) (hx : a.eval x = .slice A n c)
    (hsl : Sl w 1 A n (bytes8 bs)) (h : K (a.put o.dst (.string (tx bs))) w) : if Region.wanted o (yielded ops a.tmps) = true then Oper.wp P o a w K Q else E := by
  have hw : Region.wanted o (yielded ops a.tmps) = true := by simp [Region.wanted, hgd]
  rw [if_pos hw]
  exact wp_conv_str w x src dst e ho hs he hd A n c bs hx hsl h
/-- A text as new bytes. -/
theorem conv_bytes (src dst e : TypeId) (s : ByteArray) (hs : P.underlying src = some .string) (hd : P.underlying dst = some (.slice e)) (he : P.underlying e = some (.int .u8)) :
    ∃ (cap : Nat) (w4 : World), (convert src dst (.string s)).run P w = .ok (.slice (some ⟨w.heap.size, 0, none⟩) s.size cap) w4 ∧ Sl w4 1 (some ⟨w.heap.size, 0, none⟩) s.size (bytes8 s.data.toList) ∧ Below w.heap.size w w4 := by
  refine ⟨_, _, run_bytes_of_string w src dst e s hs hd he, ⟨by rw [bytes8_len, bytes_len]; omega, fun h => ⟨_, _, rfl, by simp, fun j u hu => ?_⟩⟩, ((Below.refl _ _).drew).alloc (Nat.le_refl _) _⟩
  have hh := heap_alloc_new w.drew (.cells (bytesRow s (grownCap w s.size 0 e)) e ((bytesRow s (grownCap w s.size 0 e)).size, (bytesRow s (grownCap w s.size 0 e)).size + 1))
  rw [Nat.zero_add]
  refine (cell_of_row _ w.heap.size j _ _ _ hh).trans ?_
  have hj : j < s.data.size := by
    have := lt_of_at hu
    rw [bytes8_len, Array.length_toList] at this
    exact this
  unfold bytesRow
  rw [Array.getElem?_append_left (by simpa using hj)]
  simp only [bytes8, List.getElem?_map, Array.getElem?_toList] at hu
  rw [Array.getElem?_map]
  exact hu
theorem wp_conv_bytes {o : Oper} {a : Act} {K : Act → World → Prop} {Q : Exit → Act → World → Prop} (x : Operand) (src dst e : TypeId) (ho : o.op = .convert src dst x)
    (hs : P.underlying src = some .string) (hd : P.underlying dst = some (.slice e)) (he : P.underlying e = some (.int .u8)) (s : ByteArray) (hx : a.eval x = .string s)
    (h : ∀ A cap w', Sl w' 1 A s.size (bytes8 s.data.toList) → Below w.heap.size w w' → K (a.put o.dst (.slice A s.size cap)) w') : o.wp P a w K Q := by
  obtain ⟨cap, w4, hr, h1, h2⟩ := conv_bytes (P := P) w src dst e s hs hd he
  unfold Oper.wp execOp
  simp only [ho, hx, Sem.run_bind, Sem.run_pure, Result.andThen_ok, hr]
  exact h _ _ _ h1 h2
theorem wpList_conv_bytes {ops : Array Oper} {rest : List Oper} {o : Oper} {a : Act} {Q : Exit → Act → World → Prop} (hgd : o.guard = none) (x : Operand) (src dst e : TypeId) (ho : o.op = .convert src dst x)
    (hs : P.underlying src = some .string) (hd : P.underlying dst = some (.slice e)) (he : P.underlying e = some (.int .u8)) (s : ByteArray) (hx : a.eval x = .string s)
    (h : ∀ A cap w', Sl w' 1 A s.size (bytes8 s.data.toList) → Below w.heap.size w w' → wpList P ops Q rest (a.put o.dst (.slice A s.size cap)) w') : wpList P ops Q (o :: rest) a w :=
  wpList_plain hgd fun _ hK => wp_conv_bytes w x src dst e ho hs hd he s hx fun A cap w' h1 h2 => hK _ _ (h A cap w' h1 h2)
theorem step_conv_bytes {ops : Array Oper} {o : Oper} {a : Act} {K : Act → World → Prop} {Q : Exit → Act → World → Prop} {E : Prop} (hgd : o.guard = none) (x : Operand) (src dst e : TypeId) (ho : o.op = .convert src dst x)
    (hs : P.underlying src = some .string) (hd : P.underlying dst = some (.slice e)) (he : P.underlying e = some (.int .u8)) (s : ByteArray) (hx : a.eval x = .string s)
    (h : ∀ A cap w', Sl w' 1 A s.size (bytes8 s.data.toList) → Below w.heap.size w w' → K (a.put o.dst (.slice A s.size cap)) w') : if Region.wanted o (yielded ops a.tmps) = true then Oper.wp P o a w K Q else E := by
  have hw : Region.wanted o (yielded ops a.tmps) = true := by simp [Region.wanted, hgd]
  rw [if_pos hw]
  exact wp_conv_bytes w x src dst e ho hs hd he s hx h
end
/-- What a call owns stays its own where only what is new changes. -/
theorem own_later {w w' : World} {base size n : Nat} {e : TypeId} {v : Value} {xs : List Value} (h : w.ownsRow base e size v n xs) (hb : Below w.heap.size w w') : w'.ownsRow base e size v n xs := by
  refine ⟨h.1, ?_⟩
  rcases h.2 with h0 | ⟨g, cap, cur, hv, hbg, hg, hr⟩
  · exact .inl h0
  · refine .inr ⟨g, cap, cur, hv, hbg, ?_, hr⟩
    have hlt : g < w.heap.size := by
      rcases Nat.lt_or_ge g w.heap.size with h | h
      · exact h
      · rw [Array.getElem?_eq_none h] at hg; cases hg
    rw [hb.block g hlt]
    exact hg
end Go.Proofs.Ytflamhndmggiaaa
/-
  Contracts of the reference's laying of numbers and texts as bytes.
-/
namespace Go.Proofs.Ytflamhndmggiaaa
open Go.RowKit

set_option maxRecDepth 100000 in
set_option maxHeartbeats 1000000 in
theorem ref2_Nums_yes {A : Option Addr} {n c : Nat} {xs : List Int} (w : World) (hs : Sl w 1 A n (ints xs)) (hn : n ≤ 1099511627776) (h0 : ∀ x ∈ xs, 0 ≤ x ∧ x ≤ 9223372036854775807) (hb : (numsB xs).length ≤ 1048576) :
    Calls Try.prog 64 #[.slice A n c] w fun e w' => ∃ v', e = .returned (.tuple #[v', .bool true]) ∧ w'.ownsRow w.heap.size 5 1 v' (numsB xs).length (bytes8 (numsB xs)) ∧ Below w.heap.size w w' := by
  have HL := hide hs.ilen
  have HB := hide hb
  have H0 := hide h0
  clear hb h0
  obtain ⟨i0, hi, hz0, hz1, hz2⟩ := info_parts Try.infoByte
  go_enter Try.func64, Try.ntmps64
  go_wp2_with (go_at_call 32; refine (ref2_Num n _ (by omega)).mono ?_; rintro e w1 ⟨v1, rfl, hown1, hb1⟩)
  have hz1' := hb1.size
  go_loopw [4, 5] (fun b i wr => ∃ (k : Nat) (ys : List UInt8), k ≤ n ∧ i = .int .i64 k ∧ Hid (enc n ++ nums (xs.take k) = ys) ∧ ys.length ≤ 1048576 ∧ wr.ownsRow w.heap.size 5 1 b ys.length (bytes8 ys) ∧ Below w.heap.size w wr) (fun _ i _ => n - (intOf i).toNat)
  case atStart => exact ⟨0, enc n, Nat.zero_le _, rfl, by simp [Hid, nums], by have := enc_len_63 (n := n) (by omega); omega, hown1, hb1⟩
  case round =>
    obtain ⟨k, ys, hk, rfl, HY, hyl, hown, hb⟩ := hrel
    have hsz := hb.size
    have hTot : Hid ((enc n ++ nums xs).length ≤ 1048576) := by have := HB.out; rw [numsB, HL.out] at this; exact this
    clear hown1 hb1 hz1'
    obtain ⟨wo, rfl⟩ : ∃ wo : World, wo = wr := ⟨_, rfl⟩
    obtain ⟨A2, c2, rfl⟩ := own_slice hown
    by_cases hlt : k < n
    · obtain ⟨b, off, u, rfl, HU, hc, _⟩ := hs.int hlt
      have hc' := cell_later hb hc
      obtain ⟨hu0, hu1⟩ := H0.out u (List.mem_of_getElem? HU.out)
      obtain ⟨m, rfl⟩ : ∃ m : Nat, u = (m : Int) := ⟨u.toNat, by omega⟩
      have hm : m ≤ 9223372036854775807 := by omega
      clear hc hs hu0 hu1
      have HQ : Hid (enc n ++ nums (xs.take (k + 1)) = ys ++ enc m) := by
        rw [Hid, nums_take HU.out, ← HY.out]; simp
      have hq : (ys ++ enc m).length ≤ 1048576 := by
        have h2 := congrArg List.length HQ.out
        have h3 := nums_take_le xs (k + 1)
        have h4 := hTot.out
        rw [List.length_append] at h2 h4
        omega
      have hel := enc_len_63 (n := m) (by omega)
      go_wp2_with (first
        | (go_at_call 32; refine (ref2_Num m _ hm).mono ?_; rintro e w2 ⟨v2, rfl, hown2, hb2⟩; obtain ⟨A3, c3, rfl⟩ := own_slice hown2; have hown3 : w2.ownsRow w.heap.size 5 1 (.slice A2 ys.length c2) ys.length (bytes8 ys) := own_later hown hb2)
        | (at_builtin; refine wpList_append_any _ rfl _ _ 28 rfl w.heap.size 5 i0 (.int .u8 0) 1 1 Try.underlying28 hi hz0 hz1 hz2 rfl (by decide) _ _ _ rfl hown3 A3 _ c3 (bytes8 (enc m)) rfl (Sl.of_own hown2) (bytes8_one _) ?c1 ?c2 ?c3 ?_))
      case c1 => unfold maxLen; omega
      case c2 => omega
      case c3 => have := hb2.size; omega
      intro v3 w3 hown4 hg
      have hb3 := hb.trans (hb2.mono hsz)
      have hb4 : Below w.heap.size w w3 := hb3.grown hg (by have := hb2.size; omega) (fun g hg' => (hown3.lt g hg').1)
      rw [← bytes8_append, ← List.length_append] at hown4
      clear hown3 hg hown2 hb3 hown hb hb2 hel
      go_wp2_with fail
      go_roundw
      case rel => exact ⟨k + 1, _, by omega, by go_num, HQ, hq, hown4, hb4⟩
      case measure => simp [intOf]; omega
    · obtain rfl : k = n := by omega
      have HF : Hid (ys = numsB xs) := by
        have h := HY.out
        rw [List.take_of_length_le (by rw [HL.out]; exact Nat.le_refl _)] at h
        rw [Hid, numsB, HL.out, h]
      have hd : decide ((ys.length : Int) ≤ 1048576) = true := by rw [decide_eq_true_eq]; omega
      go_wp2_with fail
      go_ret2
      refine ⟨_, rfl, ?_, hb⟩
      rw [← HF.out]
      exact hown

set_option maxRecDepth 100000 in
set_option maxHeartbeats 1000000 in
theorem ref2_Put {A : Option Addr} {n c : Nat} {ls : List ByteArray} (w : World) (hs : Sl w 1 A n (strs ls)) (hn : n ≤ 1099511627776) (hb : (putB ls).length ≤ 1048576) :
    Calls Try.prog 58 #[.slice A n c] w fun e w' => ∃ v', e = .returned (.tuple #[v', .bool true]) ∧ w'.ownsRow w.heap.size 5 1 v' (putB ls).length (bytes8 (putB ls)) ∧ Below w.heap.size w w' := by
  have HL := hide hs.slen
  have HB := hide hb
  clear hb
  obtain ⟨i0, hi, hz0, hz1, hz2⟩ := info_parts Try.infoByte
  go_enter Try.func58, Try.ntmps58
  go_wp2_with (go_at_call 32; refine (ref2_Num n _ (by omega)).mono ?_; rintro e w1 ⟨v1, rfl, hown1, hb1⟩)
  have hz1' := hb1.size
  go_loopw [4, 5] (fun b i wr => ∃ (k : Nat) (ys : List UInt8), k ≤ n ∧ i = .int .i64 k ∧ Hid (enc n ++ txt (ls.take k) = ys) ∧ ys.length ≤ 1048576 ∧ wr.ownsRow w.heap.size 5 1 b ys.length (bytes8 ys) ∧ Below w.heap.size w wr) (fun _ i _ => n - (intOf i).toNat)
  case atStart => exact ⟨0, enc n, Nat.zero_le _, rfl, by simp [Hid, txt_nil], by have := enc_len_63 (n := n) (by omega); omega, hown1, hb1⟩
  case round =>
    obtain ⟨k, ys, hk, rfl, HY, hyl, hown, hb⟩ := hrel
    have hsz := hb.size
    have hTot : Hid ((enc n ++ txt ls).length ≤ 1048576) := by have := HB.out; rw [putB, HL.out] at this; exact this
    clear hown1 hb1 hz1'
    obtain ⟨wo, rfl⟩ : ∃ wo : World, wo = wr := ⟨_, rfl⟩
    obtain ⟨A2, c2, rfl⟩ := own_slice hown
    by_cases hlt : k < n
    · obtain ⟨b, off, u, rfl, HU, hc, _⟩ := hs.str hlt
      have hc' := cell_later hb hc
      clear hs
      obtain ⟨zs, HZ⟩ : ∃ zs, Hid (ys ++ enc u.size = zs) := ⟨_, rfl⟩
      have HQ : Hid (enc n ++ txt (ls.take (k + 1)) = zs ++ u.data.toList) := by
        rw [Hid, txt_take HU.out, ← HZ.out, ← HY.out]; simp
      have hq : zs.length + u.size ≤ 1048576 := by
        have h2 := congrArg List.length HQ.out
        have h3 := txt_take_le ls (k + 1)
        have h4 := hTot.out
        rw [List.length_append, List.length_append, bytes_len] at h2
        rw [List.length_append] at h4
        omega
      have hel := enc_len_63 (n := u.size) (by omega)
      go_wp2_with (first
        | (go_at_call 32; refine (ref2_Num u.size _ (by omega)).mono ?_; rintro e w2 ⟨v2, rfl, hown2, hb2⟩; obtain ⟨A3, c3, rfl⟩ := own_slice hown2; have hown3 : w2.ownsRow w.heap.size 5 1 (.slice A2 ys.length c2) ys.length (bytes8 ys) := own_later hown hb2)
        | (at_builtin; refine wpList_append_any _ rfl _ _ 28 rfl w.heap.size 5 i0 (.int .u8 0) 1 1 Try.underlying28 hi hz0 hz1 hz2 rfl (by decide) _ _ _ rfl hown3 A3 _ c3 (bytes8 (enc u.size)) rfl (Sl.of_own hown2) (bytes8_one _) ?c1 ?c2 ?c3 ?_))
      case c1 => unfold maxLen; omega
      case c2 => omega
      case c3 => have := hb2.size; omega
      intro v3 w3 hown4 hg
      have hb3 := hb.trans (hb2.mono hsz)
      have hb4 : Below w.heap.size w w3 := hb3.grown hg (by have := hb2.size; omega) (fun g hg' => (hown3.lt g hg').1)
      rw [← bytes8_append, ← List.length_append, HZ.out] at hown4
      have hc4 := cell_later hb4 hc
      clear hown3 hg hown2 hb3 hown hb hb2 hel hc hc'
      obtain ⟨A5, c5, rfl⟩ := own_slice hown4
      obtain ⟨cap, w4, HCV, s4, hb5⟩ := conv_bytes (P := Try.prog) w3 9 28 5 u Try.underlying9 Try.underlying28 Try.underlying5
      have hown5 := own_later hown4 hb5
      have hsz4 := hb4.size
      have hsz5 := hb5.size
      go_wp2_with (at_builtin; refine wpList_append_any _ rfl _ _ 28 rfl w.heap.size 5 i0 (.int .u8 0) 1 1 Try.underlying28 hi hz0 hz1 hz2 rfl (by decide) _ _ _ rfl hown5 _ _ cap (bytes8 u.data.toList) rfl s4 (bytes8_one _) ?d1 ?d2 ?d3 ?_)
      case d1 => unfold maxLen; omega
      case d2 => omega
      case d3 => omega
      intro v6 w6 hown6 hg6
      have hb7 : Below w.heap.size w w6 := (hb4.trans (hb5.mono hsz4)).grown hg6 (by omega) (fun g hg' => (hown5.lt g hg').1)
      have hfl : (zs ++ u.data.toList).length ≤ 1048576 := by rw [List.length_append, bytes_len]; exact hq
      have hown7 : w6.ownsRow w.heap.size 5 1 v6 (zs ++ u.data.toList).length (bytes8 (zs ++ u.data.toList)) := by rw [bytes8_append, List.length_append, bytes_len]; exact hown6
      obtain ⟨L, HLL⟩ : ∃ L, Hid ((zs ++ u.data.toList).length = L) := ⟨_, rfl⟩
      rw [HLL.out] at hown7 hfl
      obtain ⟨A7, c7, rfl⟩ := own_slice hown7
      have hd : decide ((1048576 : Int) < (L : Int)) = false := by rw [decide_eq_false_iff_not]; omega
      have HFL := hide hfl
      clear hfl hown6 hg6 hown5 hown4 hb4 hb5 s4 HCV hq
      go_wp2_with fail
      go_roundw
      case rel => exact ⟨k + 1, _, by omega, by go_num, HQ, by rw [HLL.out]; exact HFL.out, by rw [HLL.out]; exact hown7, hb7⟩
      case measure => simp [intOf]; omega
    · obtain rfl : k = n := by omega
      have HF : Hid (ys = putB ls) := by
        have h := HY.out
        rw [List.take_of_length_le (by rw [HL.out]; exact Nat.le_refl _)] at h
        rw [Hid, putB, HL.out, h]
      have hd : decide ((ys.length : Int) ≤ 1048576) = true := by rw [decide_eq_true_eq]; omega
      go_wp2_with fail
      go_ret2
      refine ⟨_, rfl, ?_, hb⟩
      rw [← HF.out]
      exact hown
end Go.Proofs.Ytflamhndmggiaaa
/-
  Contract of the reference's laying of numbers of which one is below 0.
-/
namespace Go.Proofs.Ytflamhndmggiaaa
open Go.RowKit

set_option maxRecDepth 100000 in
set_option maxHeartbeats 1000000 in
theorem ref2_Nums_no {A : Option Addr} {n c : Nat} {xs : List Int} (w : World) (hs : Sl w 1 A n (ints xs)) (hn : n ≤ 1099511627776) (h0 : ∃ x ∈ xs, x < 0) (h1 : ∀ x ∈ xs, x ≤ 9223372036854775807) :
    Calls Try.prog 64 #[.slice A n c] w fun e w' => e = .returned (.tuple #[.slice none 0 0, .bool false]) ∧ Below w.heap.size w w' := by
  have HL := hide hs.ilen
  have H0 := hide h0
  have H1 := hide h1
  clear h0 h1
  obtain ⟨i0, hi, hz0, hz1, hz2⟩ := info_parts Try.infoByte
  go_enter Try.func64, Try.ntmps64
  go_wp2_with fail
  refine (ref2_Num n _ (by omega)).mono ?_
  rintro e w1 ⟨v1, rfl, hown1, hb1⟩
  have hz1' := hb1.size
  go_wp2_with fail
  go_loopw [4, 5] (fun b i wr => ∃ (k : Nat) (ys : List UInt8), k ≤ n ∧ i = .int .i64 k ∧ Hid (∀ x ∈ xs.take k, 0 ≤ x) ∧ ys.length ≤ 9 * (k + 1) ∧ wr.ownsRow w.heap.size 5 1 b ys.length (bytes8 ys) ∧ Below w.heap.size w wr) (fun _ i _ => n - (intOf i).toNat)
  case atStart => exact ⟨0, enc n, Nat.zero_le _, rfl, by simp [Hid], by have := enc_len_63 (n := n) (by omega); omega, hown1, hb1⟩
  case round =>
    obtain ⟨k, ys, hk, rfl, HY, hyl, hown, hb⟩ := hrel
    have hsz := hb.size
    clear hown1 hb1 hz1'
    obtain ⟨wo, rfl⟩ : ∃ wo : World, wo = wr := ⟨_, rfl⟩
    obtain ⟨A2, c2, rfl⟩ := own_slice hown
    have hlt : k < n := by
      apply Nat.lt_of_not_le
      intro h
      obtain ⟨x, hx, hn0⟩ := H0.out
      have := HY.out x (by rw [List.take_of_length_le (by rw [HL.out]; exact h)]; exact hx)
      omega
    obtain ⟨b, off, u, rfl, HU, hc, _⟩ := hs.int hlt
    have hc' := cell_later hb hc
    have hu1 := H1.out u (List.mem_of_getElem? HU.out)
    clear hc hs
    by_cases hu0 : u < 0
    · go_wp2_with fail
      go_ret2
      exact ⟨rfl, hb⟩
    · obtain ⟨m, rfl⟩ : ∃ m : Nat, u = (m : Int) := ⟨u.toNat, by omega⟩
      have hm : m ≤ 9223372036854775807 := by omega
      have HQ : Hid (∀ x ∈ xs.take (k + 1), 0 ≤ x) := by
        intro x hx
        rw [take_at HU.out, List.mem_append] at hx
        rcases hx with hx | hx
        · exact HY.out x hx
        · simp at hx; omega
      have hel := enc_len_63 (n := m) (by omega)
      clear hu0 hu1
      go_wp2_with fail
      refine (ref2_Num m _ hm).mono ?_
      rintro e w2 ⟨v2, rfl, hown2, hb2⟩
      obtain ⟨A3, c3, rfl⟩ := own_slice hown2
      have hown3 : wo.ownsRow w.heap.size 5 1 (.slice A2 ys.length c2) ys.length (bytes8 ys) := hown
      have hown4 := own_later hown3 hb2
      have hsz2 := hb2.size
      go_wp2_with (at_builtin; refine wpList_append_any _ rfl _ _ 28 rfl w.heap.size 5 i0 (.int .u8 0) 1 1 Try.underlying28 hi hz0 hz1 hz2 rfl (by decide) _ _ _ rfl hown4 A3 _ c3 (bytes8 (enc m)) rfl (Sl.of_own hown2) (bytes8_one _) (by unfold maxLen; omega) (by omega) (by omega) ?_)
      intro v3 w3 hown5 hg
      have hb3 := hb.trans (hb2.mono hsz)
      have hb4 : Below w.heap.size w w3 := hb3.grown hg (by omega) (fun g hg' => (hown4.lt g hg').1)
      rw [← bytes8_append, ← List.length_append] at hown5
      have hq : (ys ++ enc m).length ≤ 9 * (k + 1 + 1) := by rw [List.length_append]; omega
      clear hown3 hown4 hg hown2 hb3 hown hb hb2 hel hyl
      go_wp2_with fail
      go_roundw
      case rel => exact ⟨k + 1, _, by omega, by go_num, HQ, hq, hown5, hb4⟩
      case measure => simp [intOf]; omega
end Go.Proofs.Ytflamhndmggiaaa
/-
  Contracts of wire's reader: a number, a count, a text.
-/
namespace Go.Proofs.Ytflamhndmggiaaa
open Go.RowKit

theorem Sl.ne_cells {w : World} {A : Option Addr} {n g : Nat} {t : TypeId} {cs : Array Value} {bs : List UInt8} (h : Sl w 1 A n (bytes8 bs)) (hb : Blk w g t cs) (hc : ∀ (i : Nat) (k : IntKind) (z : Int), cs[i]? ≠ some (Value.int k z)) :
    ∀ b off, 0 < n → A = some ⟨b, off, none⟩ → b ≠ g := by
  rintro b off hn rfl rfl
  obtain ⟨b', off', u, e, _, hcell, _⟩ := h.byte (k := 0) hn
  injection e with e
  injection e with e1 e2
  subst e1
  rw [hb.cell] at hcell
  exact hc _ _ _ hcell
theorem Sl.set_ne {w : World} {A : Option Addr} {n size : Nat} {cs : List Value} (h : Sl w size A n cs) {p : Addr} (hne : ∀ b off, 0 < n → A = some ⟨b, off, none⟩ → b ≠ p.block) (u : Value) : Sl (w.setCell p u) size A n cs := by
  refine ⟨h.1, fun hn => ?_⟩
  obtain ⟨b, off, e, hb, hc⟩ := h.2 hn
  refine ⟨b, off, e, by simpa [World.setCell] using hb, fun j v hv => ?_⟩
  have h1 : (w.setCell p u).heap[b]? = w.heap[b]? := Below.heap_setCell w p u b (hne b off hn e)
  rw [World.cell?_of_block (a := ⟨b, off + j, none⟩) h1]
  exact hc j v hv
theorem grown_set (w : World) (g i : Nat) (u : Value) : w.grownBy (w.setCell ⟨g, i, none⟩ u) (some g) :=
  ⟨rfl, rfl, rfl, by simp [World.setCell], fun k _ hk => Below.heap_setCell w ⟨g, i, none⟩ u k (by rintro rfl; exact hk rfl)⟩
theorem grown_trans {w w1 w2 : World} {row : Option Nat} (h : w.grownBy w1 row) (h' : w1.grownBy w2 row) : w.grownBy w2 row :=
  ⟨h'.os.trans h.os, h'.tape.trans h.tape, h'.output.trans h.output, Nat.le_trans h.size h'.size, fun k hk hr => (h'.block k (Nat.lt_of_lt_of_le hk h.size) hr).trans (h.block k hk hr)⟩
theorem grown_refl (w : World) (row : Option Nat) : w.grownBy w row := ⟨rfl, rfl, rfl, Nat.le_refl _, fun _ _ _ => rfl⟩
theorem drop_bytes (bs : List UInt8) (k : Nat) : (bytes8 bs).drop (k * 1) = bytes8 (bs.drop k) := by rw [Nat.mul_one, bytes8, bytes8, List.map_drop]
theorem take_bytes (bs : List UInt8) (k : Nat) : (bytes8 bs).take (k * 1) = bytes8 (bs.take k) := by rw [Nat.mul_one, bytes8, bytes8, List.map_take]

/-- A slice whose block is older than block g. -/
def Old (A : Option Addr) (n g : Nat) : Prop := 0 < n → ∃ b off, A = some ⟨b, off, none⟩ ∧ b < g
/-- A reader: the bytes that are left; is something wrong? -/
def Rd (w : World) (g : Nat) (bs : List UInt8) (bad : Bool) : Prop :=
  ∃ A n c, Blk w g 129 #[.slice A n c, .bool bad] ∧ Sl w 1 A n (bytes8 bs) ∧ n ≤ c ∧ c ≤ 9223372036854775807 ∧ Old A n g
theorem old_ne {A : Option Addr} {n g : Nat} (h : Old A n g) : ∀ b off, 0 < n → A = some ⟨b, off, none⟩ → b ≠ g := by
  intro b off hn e
  obtain ⟨b', off', e', hb⟩ := h hn
  rw [e] at e'
  injection e' with e'
  injection e' with e1 e2
  omega
theorem old_cut {A : Option Addr} {n g k : Nat} (h : Old A n g) : Old (A.map (·.add k)) (n - k) g := by
  intro hn
  obtain ⟨b, off, rfl, hb⟩ := h (by omega)
  exact ⟨b, off + k, by simp [add_lit], hb⟩
theorem old_sub {A : Option Addr} {n g k : Nat} (h : Old A n g) : Old A (n - k) g := fun hn => h (by omega)
theorem Rd.lt {w : World} {g : Nat} {bs : List UInt8} {bad : Bool} (h : Rd w g bs bad) : g < w.heap.size := by
  obtain ⟨A, n, c, hb, _⟩ := h
  exact hb.lt
theorem Rd.below {w w' : World} {g : Nat} {bs : List UInt8} {bad : Bool} (h : Rd w g bs bad) (hb : Below w.heap.size w w') : Rd w' g bs bad := by
  obtain ⟨A, n, c, h1, h2, h3⟩ := h
  exact ⟨A, n, c, h1.later hb, h2.below hb, h3⟩
theorem Rd.grown {w w' : World} {g g' : Nat} {bs : List UInt8} {bad : Bool} (h : Rd w g bs bad) (hb : w.grownBy w' (some g')) (hg : g < g') : Rd w' g bs bad := by
  obtain ⟨A, n, c, h1, h2, h3, h4, h5⟩ := h
  refine ⟨A, n, c, h1.grown hb (by intro e; injection e with e; omega), ⟨h2.1, fun hn => ?_⟩, h3, h4, h5⟩
  obtain ⟨b, off, e, hlt, hc⟩ := h2.2 hn
  obtain ⟨b', off', e', hlt'⟩ := h5 hn
  rw [e] at e'
  injection e' with e'
  injection e' with e1 e2
  subst e1
  refine ⟨b, off, e, Nat.lt_of_lt_of_le hlt hb.size, fun j u hu => ?_⟩
  rw [World.cell?_of_block (a := ⟨b, off + j, none⟩) (hb.block b hlt (by intro e; injection e with e; omega))]
  exact hc j u hu
theorem Rd.alloc {w : World} {g : Nat} {bs : List UInt8} {bad : Bool} (h : Rd w g bs bad) (o : Obj) : Rd (w.alloc o) g bs bad := h.below ((Below.refl _ _).alloc (Nat.le_refl _) o)

set_option maxRecDepth 100000 in
set_option maxHeartbeats 400000 in
theorem rd_number_yes {g : Nat} {bs : List UInt8} {m k : Nat} (w : World) (h : Rd w g bs false) (hg : getN bs = some (m, k)) :
    Calls Try.prog 82 #[.pointer (some ⟨g, 0, none⟩)] w fun e w' => e = .returned (.int .i64 m) ∧ Rd w' g (bs.drop k) false ∧ w.grownBy w' (some g) := by
  obtain ⟨A, n, c, hb, hs, hnc, hc, hold⟩ := h
  have h0 : w.cell? ⟨g, 0, none⟩ = some (.slice A n c) := hb.at_ rfl
  have h1 : w.cell? ⟨g, 1, none⟩ = some (.bool false) := hb.at_ rfl
  have f0 := hb.frozen 0
  have f1 := hb.frozen 1
  have hk : k ≤ n := by
    have := (getN_some hg).2.2.2.2
    rw [hs.blen] at this
    exact this
  have HF1 : Hid (c = k → Rd (w.setCell ⟨g, 0, none⟩ (.slice A (n - k) 0)) g (bs.drop k) false) := fun e => by
    have h2 := hs.cut hk hnc
    rw [drop_bytes, if_pos e] at h2
    exact ⟨_, _, _, hb.set_ 0 _, h2.set_ne (old_ne (old_sub hold)) _, by omega, by omega, (old_sub hold)⟩
  have HF2 : Hid (¬ c = k → Rd (w.setCell ⟨g, 0, none⟩ (.slice (A.map (·.add k)) (n - k) (c - k))) g (bs.drop k) false) := fun e => by
    have h2 := hs.cut hk hnc
    rw [drop_bytes, if_neg e, Nat.mul_one] at h2
    exact ⟨_, _, _, hb.set_ 0 _, h2.set_ne (old_ne (old_cut hold)) _, by omega, by omega, (old_cut hold)⟩
  have HG : Hid (∀ u, w.grownBy (w.setCell ⟨g, 0, none⟩ u) (some g)) := grown_set w g 0
  have HS := hide hs
  have hg' := hide hg
  clear hs hb hg
  have hn : n ≤ 9223372036854775807 := by omega
  go_enter Try.func82, Try.ntmps82
  go_wp2_with (go_at_call 30; refine (wire_GetNum_yes _ HS.out hn hg'.out).mono ?_; rintro e w' ⟨rfl, rfl⟩)
  all_goals
    go_ret
    first
      | exact ⟨rfl, HF1.out (by assumption), HG.out _⟩
      | exact ⟨rfl, HF2.out (by assumption), HG.out _⟩

set_option maxRecDepth 100000 in
set_option maxHeartbeats 400000 in
theorem rd_number_no {g : Nat} {bs : List UInt8} {bad : Bool} (w : World) (h : Rd w g bs bad) (hg : bad = true ∨ getN bs = none) :
    Calls Try.prog 82 #[.pointer (some ⟨g, 0, none⟩)] w fun e w' => e = .returned (.int .i64 0) ∧ Rd w' g bs true ∧ w.grownBy w' (some g) := by
  obtain ⟨A, n, c, hb, hs, hnc, hc, hold⟩ := h
  have h0 : w.cell? ⟨g, 0, none⟩ = some (.slice A n c) := hb.at_ rfl
  have h1 : w.cell? ⟨g, 1, none⟩ = some (.bool bad) := hb.at_ rfl
  have f0 := hb.frozen 0
  have f1 := hb.frozen 1
  have HF : Hid (Rd (w.setCell ⟨g, 1, none⟩ (.bool true)) g bs true) := ⟨_, _, _, hb.set_ 1 _, hs.set_ne (old_ne hold) _, hnc, hc, hold⟩
  have HG := hide (grown_set w g 1 (.bool true))
  have HS := hide hs
  clear hs hb
  have hn : n ≤ 9223372036854775807 := by omega
  cases bad with
  | true =>
    clear hg
    cases hg : getN bs with
    | none =>
      have hg' := hide hg
      clear hg
      go_enter Try.func82, Try.ntmps82
      go_wp2_with (go_at_call 30; refine (wire_GetNum_no _ HS.out hn hg'.out).mono ?_; rintro e w' ⟨rfl, rfl⟩)
      go_ret
      exact ⟨rfl, HF.out, HG.out⟩
    | some p =>
      obtain ⟨m, k⟩ := p
      have hg' := hide hg
      clear hg
      go_enter Try.func82, Try.ntmps82
      go_wp2_with (go_at_call 30; refine (wire_GetNum_yes _ HS.out hn hg'.out).mono ?_; rintro e w' ⟨rfl, rfl⟩)
      go_ret
      exact ⟨rfl, HF.out, HG.out⟩
  | false =>
    have hg' : Hid (getN bs = none) := by
      rcases hg with h | h
      · cases h
      · exact h
    clear hg
    go_enter Try.func82, Try.ntmps82
    go_wp2_with (go_at_call 30; refine (wire_GetNum_no _ HS.out hn hg'.out).mono ?_; rintro e w' ⟨rfl, rfl⟩)
    go_ret
    exact ⟨rfl, HF.out, HG.out⟩

/-- What is counted. -/
def cntN (bs : List UInt8) : Option (Nat × Nat) :=
  match getN bs with
  | none => none
  | some (m, k) => if m ≤ (bs.drop k).length then some (m, k) else none
theorem cntN_some {bs : List UInt8} {m k : Nat} (h : cntN bs = some (m, k)) : getN bs = some (m, k) ∧ m ≤ (bs.drop k).length := by
  unfold cntN at h
  cases hg : getN bs with
  | none => rw [hg] at h; cases h
  | some p =>
    obtain ⟨m', k'⟩ := p
    rw [hg] at h
    simp only at h
    split at h
    · rename_i hm
      injection h with h
      injection h with e1 e2
      subst e1; subst e2
      exact ⟨rfl, hm⟩
    · cases h
set_option maxRecDepth 100000 in
set_option maxHeartbeats 400000 in
theorem rd_count_yes {g : Nat} {bs : List UInt8} {m k : Nat} (w : World) (h : Rd w g bs false) (hg : cntN bs = some (m, k)) :
    Calls Try.prog 83 #[.pointer (some ⟨g, 0, none⟩)] w fun e w' => e = .returned (.int .i64 m) ∧ Rd w' g (bs.drop k) false ∧ w.grownBy w' (some g) := by
  obtain ⟨hg1, hm1⟩ := cntN_some hg
  have hg' := hide hg1
  have hm := hide hm1
  clear hg hg1 hm1
  go_enter Try.func83, Try.ntmps83
  go_wp2_with fail
  refine (rd_number_yes _ h hg'.out).mono ?_
  rintro e w1 ⟨rfl, hr, hgr⟩
  obtain ⟨A, n, c, hb, hs, hnc, hc, hold⟩ := hr
  have h0 : w1.cell? ⟨g, 0, none⟩ = some (.slice A n c) := hb.at_ rfl
  have h1 : w1.cell? ⟨g, 1, none⟩ = some (.bool false) := hb.at_ rfl
  have f0 := hb.frozen 0
  have f1 := hb.frozen 1
  have hm2 : decide (n < m) = false := by
    have := hm.out
    rw [hs.blen] at this
    rw [decide_eq_false_iff_not]; omega
  have HF : Hid (Rd (w1.setCell ⟨g, 1, none⟩ (.bool false)) g (bs.drop k) false) := ⟨_, _, _, hb.set_ 1 _, hs.set_ne (old_ne hold) _, hnc, hc, hold⟩
  have HG := hide (grown_trans hgr (grown_set w1 g 1 (.bool false)))
  clear hs hb hgr h
  go_wp2_with fail
  go_ret
  exact ⟨rfl, HF.out, HG.out⟩
set_option maxRecDepth 100000 in
set_option maxHeartbeats 400000 in
theorem rd_count_no {g : Nat} {bs : List UInt8} {bad : Bool} (w : World) (h : Rd w g bs bad) (hg : bad = true ∨ cntN bs = none) :
    Calls Try.prog 83 #[.pointer (some ⟨g, 0, none⟩)] w fun e w' => e = .returned (.int .i64 0) ∧ (∃ bs', Rd w' g bs' true) ∧ w.grownBy w' (some g) := by
  have two : (bad = true ∨ getN bs = none) ∨ (bad = false ∧ ∃ m k, getN bs = some (m, k) ∧ (bs.drop k).length < m) := by
    rcases hg with hg | hg
    · exact .inl (.inl hg)
    · cases bad with
      | true => exact .inl (.inl rfl)
      | false =>
        unfold cntN at hg
        cases h1 : getN bs with
        | none => exact .inl (.inr rfl)
        | some p =>
          obtain ⟨m, k⟩ := p
          rw [h1] at hg
          simp only at hg
          by_cases hm : m ≤ (bs.drop k).length
          · rw [if_pos hm] at hg; cases hg
          · exact .inr ⟨rfl, m, k, rfl, by omega⟩
  rcases two with hg | ⟨rfl, m, k, hg, hm⟩
  · go_enter Try.func83, Try.ntmps83
    go_wp2_with fail
    refine (rd_number_no _ h hg).mono ?_
    rintro e w1 ⟨rfl, hr, hgr⟩
    obtain ⟨A, n, c, hb, hs, hnc, hc, hold⟩ := hr
    have h0 : w1.cell? ⟨g, 0, none⟩ = some (.slice A n c) := hb.at_ rfl
    have h1 : w1.cell? ⟨g, 1, none⟩ = some (.bool true) := hb.at_ rfl
    have f0 := hb.frozen 0
    have f1 := hb.frozen 1
    have HF : Hid (∃ bs', Rd (w1.setCell ⟨g, 1, none⟩ (.bool true)) g bs' true) := ⟨_, _, _, _, hb.set_ 1 _, hs.set_ne (old_ne hold) _, hnc, hc, hold⟩
    have HG := hide (grown_trans hgr (grown_set w1 g 1 (.bool true)))
    clear hs hb hgr h hg
    go_wp2_with fail
    go_ret
    exact ⟨rfl, HF.out, HG.out⟩
  · have hg' := hide hg
    have hm' := hide hm
    clear hg hm
    go_enter Try.func83, Try.ntmps83
    go_wp2_with fail
    refine (rd_number_yes _ h hg'.out).mono ?_
    rintro e w1 ⟨rfl, hr, hgr⟩
    obtain ⟨A, n, c, hb, hs, hnc, hc, hold⟩ := hr
    have h0 : w1.cell? ⟨g, 0, none⟩ = some (.slice A n c) := hb.at_ rfl
    have h1 : w1.cell? ⟨g, 1, none⟩ = some (.bool false) := hb.at_ rfl
    have f0 := hb.frozen 0
    have f1 := hb.frozen 1
    have hm2 : decide (n < m) = true := by
      have := hm'.out
      rw [hs.blen] at this
      rw [decide_eq_true_eq]; omega
    have HF : Hid (∃ bs', Rd (w1.setCell ⟨g, 1, none⟩ (.bool true)) g bs' true) := ⟨_, _, _, _, hb.set_ 1 _, hs.set_ne (old_ne hold) _, hnc, hc, hold⟩
    have HG := hide (grown_trans hgr (grown_set w1 g 1 (.bool true)))
    clear hs hb hgr h
    go_wp2_with fail
    go_ret
    exact ⟨rfl, HF.out, HG.out⟩

set_option maxRecDepth 100000 in
set_option maxHeartbeats 400000 in
theorem rd_text_yes {g : Nat} {bs : List UInt8} {m k : Nat} (w : World) (h : Rd w g bs false) (hg : cntN bs = some (m, k)) :
    Calls Try.prog 80 #[.pointer (some ⟨g, 0, none⟩)] w fun e w' => e = .returned (.string (tx ((bs.drop k).take m))) ∧ Rd w' g (bs.drop (k + m)) false ∧ w.grownBy w' (some g) := by
  have hm := hide (cntN_some hg).2
  have hg' := hide hg
  clear hg
  go_enter Try.func80, Try.ntmps80
  go_wp2_with fail
  refine (rd_count_yes _ h hg'.out).mono ?_
  rintro e w1 ⟨rfl, hr, hgr⟩
  obtain ⟨A, n, c, hb, hs, hnc, hc, hold⟩ := hr
  have h0 : w1.cell? ⟨g, 0, none⟩ = some (.slice A n c) := hb.at_ rfl
  have h1 : w1.cell? ⟨g, 1, none⟩ = some (.bool false) := hb.at_ rfl
  have f0 := hb.frozen 0
  have f1 := hb.frozen 1
  have hmn : m ≤ n := by
    have := hm.out
    rw [hs.blen] at this
    exact this
  have hmc : m ≤ c := by omega
  have hcv : (convert 28 9 (.slice A m c)).run Try.prog w1 = .ok (.string (tx ((bs.drop k).take m))) w1 := by
    have h2 := hs.take hmn
    rw [take_bytes] at h2
    exact run_str_of_bytes w1 _ _ _ Try.underlying28 Try.underlying5 Try.underlying9 h2
  have HF1 : Hid (c = m → Rd (w1.setCell ⟨g, 0, none⟩ (.slice A (n - m) 0)) g (bs.drop (k + m)) false) := fun e => by
    have h2 := hs.cut hmn hnc
    rw [drop_bytes, if_pos e, List.drop_drop] at h2
    exact ⟨_, _, _, hb.set_ 0 _, h2.set_ne (old_ne (old_sub hold)) _, by omega, by omega, (old_sub hold)⟩
  have HF2 : Hid (¬ c = m → Rd (w1.setCell ⟨g, 0, none⟩ (.slice (A.map (·.add m)) (n - m) (c - m))) g (bs.drop (k + m)) false) := fun e => by
    have h2 := hs.cut hmn hnc
    rw [drop_bytes, if_neg e, Nat.mul_one, List.drop_drop] at h2
    exact ⟨_, _, _, hb.set_ 0 _, h2.set_ne (old_ne (old_cut hold)) _, by omega, by omega, (old_cut hold)⟩
  have HG : Hid (∀ u, w.grownBy (w1.setCell ⟨g, 0, none⟩ u) (some g)) := fun u => grown_trans hgr (grown_set w1 g 0 u)
  clear hs hb hgr h
  go_wp2_with fail
  all_goals
    go_ret
    first
      | exact ⟨rfl, HF1.out (by assumption), HG.out _⟩
      | exact ⟨rfl, HF2.out (by assumption), HG.out _⟩
set_option maxRecDepth 100000 in
set_option maxHeartbeats 400000 in
theorem rd_text_no {g : Nat} {bs : List UInt8} {bad : Bool} (w : World) (h : Rd w g bs bad) (hg : bad = true ∨ cntN bs = none) :
    Calls Try.prog 80 #[.pointer (some ⟨g, 0, none⟩)] w fun e w' => (∃ s, e = .returned (.string s)) ∧ (∃ bs', Rd w' g bs' true) ∧ w.grownBy w' (some g) := by
  go_enter Try.func80, Try.ntmps80
  go_wp2_with fail
  refine (rd_count_no _ h hg).mono ?_
  rintro e w1 ⟨rfl, hr, hgr⟩
  obtain ⟨bs', A, n, c, hb, hs, hnc, hc, hold⟩ := hr
  have h0 : w1.cell? ⟨g, 0, none⟩ = some (.slice A n c) := hb.at_ rfl
  have h1 : w1.cell? ⟨g, 1, none⟩ = some (.bool true) := hb.at_ rfl
  have f0 := hb.frozen 0
  have f1 := hb.frozen 1
  have hcv : (convert 28 9 (.slice A 0 c)).run Try.prog w1 = .ok (.string (tx (bs'.take 0))) w1 := by
    have h2 := hs.take (Nat.zero_le n)
    rw [take_bytes] at h2
    exact run_str_of_bytes w1 _ _ _ Try.underlying28 Try.underlying5 Try.underlying9 h2
  have HF : ∀ A' c', (A' = A ∨ 0 < n ∧ A' = A.map (·.add 0)) → c' = c → Hid (Rd (w1.setCell ⟨g, 0, none⟩ (.slice A' n c')) g bs' true) := by
    rintro A' c' hA rfl
    have hA' : A' = A ∨ A' = A.map (·.add 0) := by rcases hA with h | h; exact .inl h; exact .inr h.2
    have e : A.map (·.add 0) = A := by cases A <;> simp [Addr.add]
    rw [e] at hA'
    obtain rfl : A' = A := by rcases hA' with h | h <;> exact h
    exact ⟨_, _, _, hb.set_ 0 _, hs.set_ne (old_ne hold) _, hnc, hc, hold⟩
  have HG := fun u => hide (grown_trans hgr (grown_set w1 g 0 u))
  have HF2 := hide HF
  have HG2 := hide HG
  clear hs hb hgr h HF HG hg
  go_wp2_with fail
  go_ret
  refine ⟨⟨_, rfl⟩, ⟨bs', ?_⟩, HG2.out _⟩
  first
    | exact HF2.out _ _ (.inl rfl) rfl
    | (simp only [Nat.sub_zero]; exact HF2.out _ _ (by split <;> simp [Addr.add]) rfl)
end Go.Proofs.Ytflamhndmggiaaa
/-
  Small words on texts as cells.
-/
namespace Go.Proofs.Ytflamhndmggiaaa
open Go.RowKit

theorem one_str (s : ByteArray) : ∀ u ∈ [Value.string s], u.oneCell' = true := by intro u hu; simp at hu; subst hu; rfl
theorem toList_inj' {a b : ByteArray} (h : a.toList = b.toList) : a = b := by
  rw [ByteArray.toList_eq, ByteArray.toList_eq] at h
  cases a; cases b
  congr
  exact Array.toList_inj.mp h
theorem toList_ne {a b : ByteArray} (h : ¬ a = b) : (a.toList == b.toList) = false := by
  rw [beq_eq_false_iff_ne]
  exact fun e => h (toList_inj' e)
theorem Try.infoStr : (Try.prog.info? 9).map (fun i => (i.zero, i.size, i.bytes)) = some (some (.string ByteArray.empty), 1, 16) := by kernel_rfl
end Go.Proofs.Ytflamhndmggiaaa
