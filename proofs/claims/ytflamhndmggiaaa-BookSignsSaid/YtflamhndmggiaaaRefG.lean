
/-
  Contracts of the reference's reading of texts and numbers.
-/
import Derived.Test.YtflamhndmggiaaaWirH
namespace Go.Proofs.Ytflamhndmggiaaa
open Go.RowKit

theorem gotN_some {bs : List UInt8} {m k : Nat} (h : getN bs = some (m, k)) : gotN bs = (m, k) := by simp [gotN, h]
theorem gotN_none {bs : List UInt8} (h : getN bs = none) : gotN bs = (0, 0) := by simp [gotN, h]
theorem rdL_none_of_short {α : Type} {one : List UInt8 → Option (α × List UInt8)} {e : α → List UInt8} {dom : α → Prop} (C : Codec one e dom) {n : Nat} {r : List UInt8} (h : r.length < n) : rdL one n r = none := by
  cases hr : rdL one n r with
  | none => rfl
  | some l => have := rdL_le C hr; omega
/-- The reference's end: what was read, and whether that is all. -/
def EndL {α : Type} (t : TypeId) (f : α → Value) (o : Option (List α)) (w : World) (e : Ending) (w' : World) : Prop :=
  match o with
  | some l => ∃ v, e = .returned (.tuple #[v, .bool true]) ∧ w'.ownsRow w.heap.size t 1 v l.length (l.map f) ∧ Below w.heap.size w w'
  | none => ∃ v, e = .returned (.tuple #[v, .bool false]) ∧ (∃ A n c, v = .slice A n c) ∧ Below w.heap.size w w'
theorem EndL.no {α : Type} {t : TypeId} {f : α → Value} {o : Option (List α)} {w w' : World} (ho : o = none) (hb : Below w.heap.size w w') (v : Value) (hv : ∃ A n c, v = .slice A n c := by exact ⟨_, _, _, rfl⟩) : EndL t f o w (.returned (.tuple #[v, .bool false])) w' := by
  subst ho; exact ⟨v, rfl, hv, hb⟩
theorem EndL.yes {α : Type} {t : TypeId} {f : α → Value} {o : Option (List α)} {l : List α} {w w' : World} (ho : o = some l) (hb : Below w.heap.size w w') {v : Value} (h : w'.ownsRow w.heap.size t 1 v l.length (l.map f)) : EndL t f o w (.returned (.tuple #[v, .bool true])) w' := by
  subst ho; exact ⟨v, rfl, h, hb⟩
theorem EndL.two {α : Type} {t : TypeId} {f : α → Value} {o : Option (List α)} {b : Bool} {w w' : World} {v : Value} (hv : ∃ A n c, v = .slice A n c) (hb : Below w.heap.size w w') (h1 : b = false → o = none) (h2 : b = true → ∃ l, o = some l ∧ w'.ownsRow w.heap.size t 1 v l.length (l.map f)) : EndL t f o w (.returned (.tuple #[v, .bool b])) w' := by
  cases b with
  | false => exact EndL.no (h1 rfl) hb v hv
  | true =>
    obtain ⟨l, h3, h4⟩ := h2 rfl
    exact EndL.yes h3 hb h4
/-- What is left to read, behind those that have been read. -/
def Lf {α : Type} (one : List UInt8 → Option (α × List UInt8)) (bs : List UInt8) (o : Option (List α)) (j at_ : Nat) (ys : List α) : Prop :=
  at_ ≤ bs.length ∧ o = (rdL one j (bs.drop at_)).map (ys ++ ·)
theorem Lf.fail {α : Type} {one : List UInt8 → Option (α × List UInt8)} {bs : List UInt8} {o : Option (List α)} {j a : Nat} {ys : List α} (h : Lf one bs o (j + 1) a ys) (hn : one (bs.drop a) = none) : o = none := by
  rw [h.2, rdL, hn]; rfl
theorem Lf.next {α : Type} {one : List UInt8 → Option (α × List UInt8)} {bs : List UInt8} {o : Option (List α)} {j a a' : Nat} {ys : List α} {x : α} (h : Lf one bs o (j + 1) a ys) (hn : one (bs.drop a) = some (x, bs.drop a')) (ha : a' ≤ bs.length) : Lf one bs o j a' (ys ++ [x]) := by
  refine ⟨ha, ?_⟩
  rw [h.2, rdL, hn]
  simp only
  cases rdL one j (bs.drop a') with
  | none => rfl
  | some l => simp
theorem Lf.end_ {α : Type} {one : List UInt8 → Option (α × List UInt8)} {bs : List UInt8} {o : Option (List α)} {a : Nat} {ys : List α} (h : Lf one bs o 0 a ys) : (a = bs.length → o = some ys) ∧ (a ≠ bs.length → o = none) := by
  obtain ⟨h1, h2⟩ := h
  rw [rdL] at h2
  constructor
  · intro e
    rw [if_pos (by rw [e, List.drop_length])] at h2
    simpa using h2
  · intro e
    rw [if_neg (by rw [List.drop_eq_nil_iff]; omega)] at h2
    simpa using h2

set_option maxRecDepth 100000 in
set_option maxHeartbeats 2000000 in
theorem ref2_Get {A : Option Addr} {n c : Nat} {bs : List UInt8} (w : World) (hs : Sl w 1 A n (bytes8 bs)) (hnc : n ≤ c) (hc : c ≤ 9223372036854775807) :
    Calls Try.prog 61 #[.slice A n c] w (EndL 9 Value.string (getT bs) w) := by
  have HL := hide hs.blen
  obtain ⟨i0, hi, hz0, hz1, hz2⟩ := info_parts Try.infoStr
  by_cases hbig : 1048576 < n
  · have ho : Hid (getT bs = none) := by
      unfold Hid getT getL
      rw [if_pos (by rw [HL.out]; exact hbig)]
    have hd : decide ((1048576 : Int) < (n : Int)) = true := by rw [decide_eq_true_eq]; omega
    clear hbig
    go_enter Try.func61, Try.ntmps61
    go_wp2_with fail
    go_ret2
    exact EndL.no ho.out (Below.refl _ _) _
  · have hd : decide ((1048576 : Int) < (n : Int)) = false := by rw [decide_eq_false_iff_not]; omega
    have hn : n ≤ 1048576 := by omega
    clear hbig
    cases hg : getN bs with
    | none =>
      have ho : Hid (getT bs = none) := by
        unfold Hid getT getL
        rw [if_neg (by rw [HL.out]; omega), hg]
      have HG := hide (gotN_none hg)
      clear hg
      go_enter Try.func61, Try.ntmps61
      go_wp2_with (go_at_call 33; refine (ref2_GetNum _ hs (by omega)).mono ?_; rintro e w1 ⟨rfl, hb1⟩; rw [HG.out])
      go_ret2
      exact EndL.no ho.out hb1 _
    | some p =>
      obtain ⟨m, k⟩ := p
      have HG := hide (gotN_some hg)
      obtain ⟨g1, g2, g3, g4, g5⟩ := getN_some hg
      rw [HL.out] at g5
      have HGL := hide (getL_eq codecT (bs := bs) (m := m) (k := k) (by rw [HL.out]; exact hn) hg)
      have hk0 : ((k : Int) == 0) = false := by simp; omega
      clear hg g2 g3
      by_cases hm : n < m
      · have ho : Hid (getT bs = none) := by
          unfold Hid getT
          rw [HGL.out]
          refine rdL_none_of_short codecT ?_
          rw [List.length_drop, HL.out]; omega
        have hmd : decide (n < m) = true := by rw [decide_eq_true_eq]; omega
        clear hm
        go_enter Try.func61, Try.ntmps61
        go_wp2_with (go_at_call 33; refine (ref2_GetNum _ hs (by omega)).mono ?_; rintro e w1 ⟨rfl, hb1⟩; rw [HG.out])
        go_ret2
        exact EndL.no ho.out hb1 _
      · have hmd : decide (n < m) = false := by rw [decide_eq_false_iff_not]; omega
        have hmn : m ≤ n := by omega
        clear hm
        have HL0 : Hid (Lf oneT bs (getT bs) m k []) := by
          refine ⟨by rw [HL.out]; exact g5, ?_⟩
          unfold getT
          rw [HGL.out]
          simp
        go_enter Try.func61, Try.ntmps61
        go_wp2_with (go_at_call 33; refine (ref2_GetNum _ hs (by omega)).mono ?_; rintro e w1 ⟨rfl, hb1⟩; rw [HG.out])
        go_loopw [5, 6, 7] (fun t l i wr => ∃ (j a : Nat) (ys : List ByteArray), j ≤ m ∧ i = .int .i64 j ∧ a ≤ n ∧ t = .int .i64 a ∧ Hid (Lf oneT bs (getT bs) (m - j) a ys) ∧ Hid (ys.length = j) ∧ wr.ownsRow w.heap.size 9 1 l j (strs ys) ∧ Below w.heap.size w wr) (fun t l i _ => m - (intOf i).toNat)
        case atStart => exact ⟨0, k, [], Nat.zero_le _, rfl, g5, rfl, HL0, rfl, World.ownsRow_nil _ _ _ _, hb1⟩
        case round =>
          obtain ⟨j, a, ys, hj, rfl, ha, rfl, HLf, HY, hown, hb⟩ := hrel
          have hsz := hb.size
          clear hb1
          obtain ⟨wo, rfl⟩ : ∃ wo : World, wo = wr := ⟨_, rfl⟩
          by_cases hlt : j < m
          · obtain ⟨A2, c2, rfl⟩ := own_slice hown
            obtain ⟨j', hj'⟩ : ∃ j', m - j = j' + 1 := ⟨m - j - 1, by omega⟩
            have HLf2 : Hid (Lf oneT bs (getT bs) (j' + 1) a ys) := by rw [← hj']; exact HLf
            have HJ := hide hj'
            clear hj' HLf
            have hc1 := hs.below hb
            have hna : n - a ≤ 9223372036854775807 := by omega
            have h1 : Hid (c = a → Sl wo 1 A (n - a) (bytes8 (bs.drop a)) ∧ getN (bs.drop a) = none) := fun e => by
              have h := hc1.cut (k := a) ha hnc
              rw [if_pos e, drop_bytes] at h
              have hnil : bs.drop a = [] := List.drop_eq_nil_of_le (by rw [HL.out]; omega)
              exact ⟨h, by rw [hnil]; rfl⟩
            have h2 : Hid (¬ c = a → Sl wo 1 (A.map (·.add a)) (n - a) (bytes8 (bs.drop a))) := fun e => by
              have h := hc1.cut (k := a) ha hnc
              rw [if_neg e, drop_bytes, Nat.mul_one] at h
              exact h
            have HS1 := hide hc1
            clear hc1
            go_wp2_with fail
            · have h3 := h1.out (by assumption)
              have ho : Hid (getT bs = none) := HLf2.out.fail (by unfold oneT; rw [h3.2])
              have HG0 := hide (gotN_none h3.2)
              refine (ref2_GetNum _ h3.1 hna).mono ?_
              rintro e w2 ⟨rfl, hb2⟩
              rw [HG0.out]
              have hb3 := hb.trans (hb2.mono hsz)
              clear h3
              go_wp2_with fail
              go_ret2
              exact EndL.no ho.out hb3 _
            · have h3 := h2.out (by assumption)
              refine (ref2_GetNum _ h3 hna).mono ?_
              rintro e w2 ⟨rfl, hb2⟩
              have hsz2 := hb2.size
              have hb3 := hb.trans (hb2.mono hsz)
              have hown2 := own_later hown hb2
              clear h3 hb2 hb hown
              cases hg3 : getN (bs.drop a) with
              | none =>
                have ho : Hid (getT bs = none) := HLf2.out.fail (by unfold oneT; rw [hg3])
                rw [gotN_none hg3]
                clear hg3
                go_wp2_with fail
                go_ret2
                exact EndL.no ho.out hb3 _
              | some q =>
                obtain ⟨x, y⟩ := q
                have HG3 := hide hg3
                have hy0 := (getN_some hg3).2.2.2.1
                have hyl := (getN_some hg3).2.2.2.2
                rw [List.length_drop, HL.out] at hyl
                rw [gotN_some hg3]
                have hy00 : ((y : Int) == 0) = false := by simp; omega
                clear hg3
                by_cases hx : n < a + y + x
                · have hd2 : decide ((n : Int) - a - y < x) = true := by rw [decide_eq_true_eq]; omega
                  have ho : Hid (getT bs = none) := HLf2.out.fail (by
                    unfold oneT
                    rw [HG3.out]
                    simp only
                    rw [if_neg (by rw [List.length_drop, List.length_drop, HL.out]; omega)])
                  clear hx
                  go_wp2_with fail
                  go_ret2
                  exact EndL.no ho.out hb3 _
                · have hd2 : decide ((n : Int) - a - y < x) = false := by rw [decide_eq_false_iff_not]; omega
                  have hx2 : a + y + x ≤ n := by omega
                  have HN : Hid (Lf oneT bs (getT bs) j' (a + y + x) (ys ++ [tx ((bs.drop (a + y)).take x)])) := HLf2.out.next (by
                    unfold oneT
                    rw [HG3.out]
                    simp only
                    rw [if_pos (by rw [List.length_drop, List.length_drop, HL.out]; omega), List.drop_drop, List.drop_drop]) (by rw [HL.out]; exact hx2)
                  obtain ⟨s, HS⟩ : ∃ s, Hid (tx ((bs.drop (a + y)).take x) = s) := ⟨_, rfl⟩
                  rw [HS.out] at HN
                  have hs2 := (hs.below hb3).cut (k := a + y) (by omega) hnc
                  rw [drop_bytes] at hs2
                  have hs3 := hs2.take (k := x) (by omega)
                  rw [take_bytes] at hs3
                  have h5 : c = a + y → (convert 28 9 (.slice A x 0)).run Try.prog w2 = .ok (.string s) w2 := fun e => by
                    rw [if_pos e] at hs3
                    rw [← HS.out]
                    exact run_str_of_bytes w2 _ _ _ Try.underlying28 Try.underlying5 Try.underlying9 hs3
                  have h6 : ¬ c = a + y → (convert 28 9 (.slice (A.map (·.add (a + y))) x (c - (a + y)))).run Try.prog w2 = .ok (.string s) w2 := fun e => by
                    rw [if_neg e, Nat.mul_one] at hs3
                    rw [← HS.out]
                    exact run_str_of_bytes w2 _ _ _ Try.underlying28 Try.underlying5 Try.underlying9 hs3
                  have hw2 : w.heap.size ≤ w2.heap.size := hb3.size
                  clear hx hs2 hs3
                  by_cases hcy : c = a + y
                  · subst hcy
                    go_wp2_with (at_builtin; refine wpList_append_own _ rfl _ _ 45 rfl w.heap.size 9 i0 (.string ByteArray.empty) 1 16 Try.underlying45 hi hz0 hz1 hz2 rfl (by decide) _ _ _ rfl (hown2.alloc _) ⟨w2.heap.size, 0, none⟩ 1 1 [.string s] rfl rfl (news_one _ _ _) (one_str _) (by unfold maxLen; omega) (by omega) (by simp; omega) ?_)
                    all_goals
                      intro v3 w3 hown3 hg3 _
                      have hb4 : Below w.heap.size w w3 := (hb3.alloc hw2 _).grown hg3 (by simp; omega) (fun g hg' => (hown2.lt g hg').1)
                      have hown4 : w3.ownsRow w.heap.size 9 1 v3 (j + 1) (strs (ys ++ [s])) := by
                        have e : strs (ys ++ [s]) = strs ys ++ [.string s] := by simp [strs]
                        rw [e]; exact hown3
                      have HY2 : Hid ((ys ++ [s]).length = j + 1) := by rw [Hid, List.length_append, HY.out]; rfl
                      clear hown3 hg3 hown2 hb3
                      go_wp2_with fail
                      go_roundw
                      case rel => exact ⟨j + 1, a + y + x, ys ++ [s], by omega, by go_num, by omega, by first | rfl | go_num, by rw [show m - (j + 1) = j' by have := HJ.out; omega]; exact HN, HY2, hown4, hb4⟩
                      case measure => simp [intOf]; omega
                  · go_wp2_with (at_builtin; refine wpList_append_own _ rfl _ _ 45 rfl w.heap.size 9 i0 (.string ByteArray.empty) 1 16 Try.underlying45 hi hz0 hz1 hz2 rfl (by decide) _ _ _ rfl (hown2.alloc _) ⟨w2.heap.size, 0, none⟩ 1 1 [.string s] rfl rfl (news_one _ _ _) (one_str _) (by unfold maxLen; omega) (by omega) (by simp; omega) ?_)
                    all_goals
                      intro v3 w3 hown3 hg3 _
                      have hb4 : Below w.heap.size w w3 := (hb3.alloc hw2 _).grown hg3 (by simp; omega) (fun g hg' => (hown2.lt g hg').1)
                      have hown4 : w3.ownsRow w.heap.size 9 1 v3 (j + 1) (strs (ys ++ [s])) := by
                        have e : strs (ys ++ [s]) = strs ys ++ [.string s] := by simp [strs]
                        rw [e]; exact hown3
                      have HY2 : Hid ((ys ++ [s]).length = j + 1) := by rw [Hid, List.length_append, HY.out]; rfl
                      clear hown3 hg3 hown2 hb3
                      go_wp2_with fail
                      go_roundw
                      case rel => exact ⟨j + 1, a + y + x, ys ++ [s], by omega, by go_num, by omega, by first | rfl | go_num, by rw [show m - (j + 1) = j' by have := HJ.out; omega]; exact HN, HY2, hown4, hb4⟩
                      case measure => simp [intOf]; omega
          · obtain rfl : j = m := by omega
            have HE := hide HLf.out
            have hsub : j - j = 0 := by omega
            rw [hsub] at HE
            have HE2 := hide (Lf.end_ HE.out)
            clear HE hsub HLf
            by_cases hae : a = n
            · have he : ((a : Int) == (n : Int)) = true := by simp; omega
              have ho : Hid (getT bs = some ys) := HE2.out.1 (by rw [HL.out]; exact hae)
              clear hae
              go_wp2_with fail
              go_ret2
              refine EndL.yes ho.out hb ?_
              rw [HY.out]
              exact hown
            · have he : ((a : Int) == (n : Int)) = false := by simp; omega
              have ho : Hid (getT bs = none) := HE2.out.2 (by rw [HL.out]; exact hae)
              clear hae
              obtain ⟨Az, cz, rfl⟩ := own_slice hown
              go_wp2_with fail
              go_ret2
              exact EndL.no ho.out hb _

set_option maxRecDepth 100000 in
set_option maxHeartbeats 2000000 in
theorem ref2_GetNums {A : Option Addr} {n c : Nat} {bs : List UInt8} (w : World) (hs : Sl w 1 A n (bytes8 bs)) (hnc : n ≤ c) (hc : c ≤ 9223372036854775807) :
    Calls Try.prog 67 #[.slice A n c] w (EndL 3 (Value.int .i64) (getI bs) w) := by
  have HL := hide hs.blen
  obtain ⟨i0, hi, hz0, hz1, hz2⟩ := info_parts Try.infoInt
  by_cases hbig : 1048576 < n
  · have ho : Hid (getI bs = none) := by
      unfold Hid getI getL
      rw [if_pos (by rw [HL.out]; exact hbig)]
    have hd : decide ((1048576 : Int) < (n : Int)) = true := by rw [decide_eq_true_eq]; omega
    clear hbig
    go_enter Try.func67, Try.ntmps67
    go_wp2_with fail
    go_ret2
    exact EndL.no ho.out (Below.refl _ _) _
  · have hd : decide ((1048576 : Int) < (n : Int)) = false := by rw [decide_eq_false_iff_not]; omega
    have hn : n ≤ 1048576 := by omega
    clear hbig
    cases hg : getN bs with
    | none =>
      have ho : Hid (getI bs = none) := by
        unfold Hid getI getL
        rw [if_neg (by rw [HL.out]; omega), hg]
      have HG := hide (gotN_none hg)
      clear hg
      go_enter Try.func67, Try.ntmps67
      go_wp2_with (go_at_call 33; refine (ref2_GetNum _ hs (by omega)).mono ?_; rintro e w1 ⟨rfl, hb1⟩; rw [HG.out])
      go_ret2
      exact EndL.no ho.out hb1 _
    | some p =>
      obtain ⟨m, k⟩ := p
      have HG := hide (gotN_some hg)
      obtain ⟨g1, g2, g3, g4, g5⟩ := getN_some hg
      rw [HL.out] at g5
      have HGL := hide (getL_eq codecI (bs := bs) (m := m) (k := k) (by rw [HL.out]; exact hn) hg)
      have hk0 : ((k : Int) == 0) = false := by simp; omega
      clear hg g2 g3
      by_cases hm : n < m
      · have ho : Hid (getI bs = none) := by
          unfold Hid getI
          rw [HGL.out]
          refine rdL_none_of_short codecI ?_
          rw [List.length_drop, HL.out]; omega
        have hmd : decide (n < m) = true := by rw [decide_eq_true_eq]; omega
        clear hm
        go_enter Try.func67, Try.ntmps67
        go_wp2_with (go_at_call 33; refine (ref2_GetNum _ hs (by omega)).mono ?_; rintro e w1 ⟨rfl, hb1⟩; rw [HG.out])
        go_ret2
        exact EndL.no ho.out hb1 _
      · have hmd : decide (n < m) = false := by rw [decide_eq_false_iff_not]; omega
        have hmn : m ≤ n := by omega
        clear hm
        have HL0 : Hid (Lf oneI bs (getI bs) m k []) := by
          refine ⟨by rw [HL.out]; exact g5, ?_⟩
          unfold getI
          rw [HGL.out]
          simp
        go_enter Try.func67, Try.ntmps67
        go_wp2_with (go_at_call 33; refine (ref2_GetNum _ hs (by omega)).mono ?_; rintro e w1 ⟨rfl, hb1⟩; rw [HG.out])
        go_loopw [5, 6, 7] (fun t l i wr => ∃ (j a : Nat) (ys : List Int), j ≤ m ∧ i = .int .i64 j ∧ a ≤ n ∧ t = .int .i64 a ∧ Hid (Lf oneI bs (getI bs) (m - j) a ys) ∧ Hid (ys.length = j) ∧ wr.ownsRow w.heap.size 3 1 l j (ints ys) ∧ Below w.heap.size w wr) (fun t l i _ => m - (intOf i).toNat)
        case atStart => exact ⟨0, k, [], Nat.zero_le _, rfl, g5, rfl, HL0, rfl, World.ownsRow_nil _ _ _ _, hb1⟩
        case round =>
          obtain ⟨j, a, ys, hj, rfl, ha, rfl, HLf, HY, hown, hb⟩ := hrel
          have hsz := hb.size
          clear hb1
          obtain ⟨wo, rfl⟩ : ∃ wo : World, wo = wr := ⟨_, rfl⟩
          by_cases hlt : j < m
          · obtain ⟨A2, c2, rfl⟩ := own_slice hown
            obtain ⟨j', hj'⟩ : ∃ j', m - j = j' + 1 := ⟨m - j - 1, by omega⟩
            have HLf2 : Hid (Lf oneI bs (getI bs) (j' + 1) a ys) := by rw [← hj']; exact HLf
            have HJ := hide hj'
            clear hj' HLf
            have hc1 := hs.below hb
            have hna : n - a ≤ 9223372036854775807 := by omega
            have h1 : Hid (c = a → Sl wo 1 A (n - a) (bytes8 (bs.drop a)) ∧ getN (bs.drop a) = none) := fun e => by
              have h := hc1.cut (k := a) ha hnc
              rw [if_pos e, drop_bytes] at h
              have hnil : bs.drop a = [] := List.drop_eq_nil_of_le (by rw [HL.out]; omega)
              exact ⟨h, by rw [hnil]; rfl⟩
            have h2 : Hid (¬ c = a → Sl wo 1 (A.map (·.add a)) (n - a) (bytes8 (bs.drop a))) := fun e => by
              have h := hc1.cut (k := a) ha hnc
              rw [if_neg e, drop_bytes, Nat.mul_one] at h
              exact h
            have HS1 := hide hc1
            clear hc1
            go_wp2_with fail
            · have h3 := h1.out (by assumption)
              have ho : Hid (getI bs = none) := HLf2.out.fail (by unfold oneI; rw [h3.2])
              have HG0 := hide (gotN_none h3.2)
              refine (ref2_GetNum _ h3.1 hna).mono ?_
              rintro e w2 ⟨rfl, hb2⟩
              rw [HG0.out]
              have hb3 := hb.trans (hb2.mono hsz)
              clear h3
              go_wp2_with fail
              go_ret2
              exact EndL.no ho.out hb3 _
            · have h3 := h2.out (by assumption)
              refine (ref2_GetNum _ h3 hna).mono ?_
              rintro e w2 ⟨rfl, hb2⟩
              have hsz2 := hb2.size
              have hb3 := hb.trans (hb2.mono hsz)
              have hown2 := own_later hown hb2
              clear h3 hb2 hb hown
              cases hg3 : getN (bs.drop a) with
              | none =>
                have ho : Hid (getI bs = none) := HLf2.out.fail (by unfold oneI; rw [hg3])
                rw [gotN_none hg3]
                clear hg3
                go_wp2_with fail
                go_ret2
                exact EndL.no ho.out hb3 _
              | some q =>
                obtain ⟨x, y⟩ := q
                have HG3 := hide hg3
                have hy0 := (getN_some hg3).2.2.2.1
                have hyl := (getN_some hg3).2.2.2.2
                rw [List.length_drop, HL.out] at hyl
                rw [gotN_some hg3]
                have hy00 : ((y : Int) == 0) = false := by simp; omega
                clear hg3
                have HN : Hid (Lf oneI bs (getI bs) j' (a + y) (ys ++ [(x : Int)])) := HLf2.out.next (by
                  unfold oneI
                  rw [HG3.out]
                  simp only
                  rw [List.drop_drop]) (by rw [HL.out]; omega)
                have hw2 : w.heap.size ≤ w2.heap.size := hb3.size
                · go_wp2_with (at_builtin; refine wpList_append_own _ rfl _ _ 46 rfl w.heap.size 3 i0 (.int .i64 0) 1 8 Try.underlying46 hi hz0 hz1 hz2 rfl (by decide) _ _ _ rfl (hown2.alloc _) ⟨w2.heap.size, 0, none⟩ 1 1 [.int .i64 x] rfl rfl (news_one _ _ _) (one_int64 _) (by unfold maxLen; omega) (by omega) (by simp; omega) ?_)
                  all_goals
                    intro v3 w3 hown3 hg3 _
                    have hb4 : Below w.heap.size w w3 := (hb3.alloc hw2 _).grown hg3 (by simp; omega) (fun g hg' => (hown2.lt g hg').1)
                    have hown4 : w3.ownsRow w.heap.size 3 1 v3 (j + 1) (ints (ys ++ [(x : Int)])) := by
                      have e : ints (ys ++ [(x : Int)]) = ints ys ++ [.int .i64 x] := by simp [ints]
                      rw [e]; exact hown3
                    have HY2 : Hid ((ys ++ [(x : Int)]).length = j + 1) := by rw [Hid, List.length_append, HY.out]; rfl
                    clear hown3 hg3 hown2 hb3
                    go_wp2_with fail
                    go_roundw
                    case rel => exact ⟨j + 1, a + y, ys ++ [(x : Int)], by omega, by go_num, by omega, by first | rfl | go_num, by rw [show m - (j + 1) = j' by have := HJ.out; omega]; exact HN, HY2, hown4, hb4⟩
                    case measure => simp [intOf]; omega
          · obtain rfl : j = m := by omega
            have HE := hide HLf.out
            have hsub : j - j = 0 := by omega
            rw [hsub] at HE
            have HE2 := hide (Lf.end_ HE.out)
            clear HE hsub HLf
            by_cases hae : a = n
            · have he : ((a : Int) == (n : Int)) = true := by simp; omega
              have ho : Hid (getI bs = some ys) := HE2.out.1 (by rw [HL.out]; exact hae)
              clear hae
              go_wp2_with fail
              go_ret2
              refine EndL.yes ho.out hb ?_
              rw [HY.out]
              exact hown
            · have he : ((a : Int) == (n : Int)) = false := by simp; omega
              have ho : Hid (getI bs = none) := HE2.out.2 (by rw [HL.out]; exact hae)
              clear hae
              obtain ⟨Az, cz, rfl⟩ := own_slice hown
              go_wp2_with fail
              go_ret2
              exact EndL.no ho.out hb _
end Go.Proofs.Ytflamhndmggiaaa
