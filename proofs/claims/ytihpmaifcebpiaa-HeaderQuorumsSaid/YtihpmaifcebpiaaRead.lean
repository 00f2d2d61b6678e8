/-
  Contracts: texts that are numbers, read into variables: wire's; one: the reference's.
-/
import Derived.Test.YtihpmaifcebpiaaBat
import Derived.Test.YtihpmaifcebpiaaW0
namespace Go.Proofs.Ytihpmaifcebpiaa
open Go.RowKit

/-- The numbers that texts are. -/
def wholes : List ByteArray → Option (List Int)
  | [] => some []
  | s :: r =>
    match wholeN s, wholes r with
    | some z, some l => some (z :: l)
    | _, _ => none
theorem wholes_snoc : ∀ (l : List ByteArray) (s : ByteArray), wholes (l ++ [s]) = (match wholes l, wholeN s with | some zs, some z => some (zs ++ [z]) | _, _ => none)
  | [], s => by
    rw [List.nil_append, wholes, wholes]
    cases wholeN s <;> rfl
  | a :: l, s => by
    rw [List.cons_append, wholes, wholes_snoc l s, wholes]
    cases wholeN a <;> cases wholes l <;> cases wholeN s <;> rfl
theorem wholes_none : ∀ (l r : List ByteArray), wholes l = none → wholes (l ++ r) = none
  | [], r, h => by simp [wholes] at h
  | a :: l, r, h => by
    rw [wholes] at h
    rw [List.cons_append, wholes]
    cases ha : wholeN a with
    | none => rfl
    | some z =>
      cases hl : wholes l with
      | none => rw [wholes_none l r hl]
      | some zs => rw [ha, hl] at h; simp at h
theorem wholes_len : ∀ (l : List ByteArray) (zs : List Int), wholes l = some zs → zs.length = l.length
  | [], zs, h => by rw [wholes] at h; injection h with h; subst h; rfl
  | a :: l, zs, h => by
    rw [wholes] at h
    cases ha : wholeN a with
    | none => rw [ha] at h; simp at h
    | some z =>
      cases hl : wholes l with
      | none => rw [ha, hl] at h; simp at h
      | some zs' =>
        rw [ha, hl] at h
        simp only [Option.some.injEq] at h
        subst h
        simp [wholes_len l zs' hl]
/-- Cells of a block set, one by one. -/
def setAll (cs : Array Value) : List Nat → List Int → Array Value
  | o :: os, z :: zs => setAll (cs.setIfInBounds o (.int .i64 z)) os zs
  | _, _ => cs
theorem setAll_snoc : ∀ (os : List Nat) (zs : List Int) (cs : Array Value) (o : Nat) (z : Int), os.length = zs.length → setAll cs (os ++ [o]) (zs ++ [z]) = (setAll cs os zs).setIfInBounds o (.int .i64 z)
  | [], [], cs, o, z, _ => rfl
  | a :: os, b :: zs, cs, o, z, h => by
    rw [List.cons_append, List.cons_append, setAll, setAll]
    exact setAll_snoc os zs _ o z (by simpa using h)
theorem setAll_size : ∀ (os : List Nat) (zs : List Int) (cs : Array Value), (setAll cs os zs).size = cs.size
  | [], zs, cs => by cases zs <;> rfl
  | a :: os, [], cs => rfl
  | a :: os, b :: zs, cs => by rw [setAll, setAll_size os zs, Array.size_setIfInBounds]
def ptrs (g : Nat) (os : List Nat) : List Value := os.map fun o => .pointer (some ⟨g, o, none⟩)
theorem grown_of_below {w w' : World} (h : Below w.heap.size w w') (row : Option Nat) : w.grownBy w' row := ⟨h.os, h.tape, h.output, h.size, fun k hk _ => h.block k hk⟩
theorem Sl.grown_ne {w w' : World} {size n : Nat} {A : Option Addr} {cs : List Value} {g : Nat} (h : Sl w size A n cs) (hg : w.grownBy w' (some g)) (hA : ∀ b off, 0 < n → A = some ⟨b, off, none⟩ → b ≠ g) : Sl w' size A n cs := by
  refine ⟨h.1, fun hn => ?_⟩
  obtain ⟨b, off, e, hb, hc⟩ := h.2 hn
  refine ⟨b, off, e, Nat.lt_of_lt_of_le hb hg.size, fun j u hu => ?_⟩
  rw [World.cell?_of_block (a := ⟨b, off + j, none⟩) (hg.block b hb (by intro e2; injection e2 with e2; exact hA b off hn e e2))]
  exact hc j u hu
theorem Sl.ptr {w : World} {n g : Nat} {A : Option Addr} {os : List Nat} (h : Sl w 1 A n (ptrs g os)) {k : Nat} (hk : k < n) : ∃ b off o, A = some ⟨b, off, none⟩ ∧ Hid (os[k]? = some o) ∧ w.cell? ⟨b, off + k, none⟩ = some (.pointer (some ⟨g, o, none⟩)) := by
  obtain ⟨b, off, e, hb, hc⟩ := h.2 (by omega)
  have hl : k < os.length := by have := h.1; simp [ptrs] at this; omega
  exact ⟨b, off, os[k], e, List.getElem?_eq_getElem hl, hc k _ (by simp [ptrs, List.getElem?_eq_getElem hl])⟩
set_option maxRecDepth 100000 in
set_option maxHeartbeats 2000000 in
theorem wire_Read {A B : Option Addr} {n c m d g : Nat} {t : TypeId} {cs : Array Value} {ls : List ByteArray} {os : List Nat} (w : World) (hs : Sl w 1 A n (strs ls)) (hp : Sl w 1 B m (ptrs g os)) (hb : Blk w g t cs) (hmn : m ≤ n) (hn : n ≤ 9223372036854775807)
    (hA : ∀ b off, 0 < n → A = some ⟨b, off, none⟩ → b ≠ g) (hB : ∀ b off, 0 < m → B = some ⟨b, off, none⟩ → b ≠ g) (hos : ∀ o ∈ os, o < cs.size) (hz : ∀ s ∈ ls, s.size ≤ 9223372036854775807) {r : Option (List Int)} (hr : Hid (wholes (ls.take m) = r)) :
    Calls Try.prog 56 #[.slice A n c, .slice B m d] w fun e w' => e = .returned (.bool r.isSome) ∧ w.grownBy w' (some g) ∧ Hid (∀ zs, r = some zs → Blk w' g t (setAll cs os zs)) := by
  have HL := hide hs.slen
  have HO := hide hos
  have HZ := hide hz
  have HPL : Hid (os.length = m) := by have := hp.1; simp [ptrs] at this; exact this
  have hd : decide ((n : Int) < (m : Int)) = false := by rw [decide_eq_false_iff_not]; omega
  have hd' : decide (n < m) = false := by rw [decide_eq_false_iff_not]; omega
  have HA := hide hA
  have HB := hide hB
  clear hos hz hA hB
  go_enter Try.func56, Try.ntmps56
  go_wp2_with fail
  go_loopw [17] (fun i wr => ∃ (k : Nat) (zs : List Int), k ≤ m ∧ i = .int .i64 k ∧ Hid (wholes (ls.take k) = some zs) ∧ w.grownBy wr (some g) ∧ Blk wr g t (setAll cs (os.take k) zs)) (fun i _ => m - (intOf i).toNat)
  case atStart => exact ⟨0, [], Nat.zero_le _, rfl, rfl, grown_refl _ _, by simpa [setAll] using hb⟩
  case round =>
    obtain ⟨k, zs, hk, rfl, HW, hgr, hbk⟩ := hrel
    obtain ⟨wo, rfl⟩ : ∃ wo : World, wo = wr := ⟨_, rfl⟩
    by_cases hlt : k < m
    · obtain ⟨b1, o1, o, rfl, HOK, hpc⟩ := (hp.grown_ne hgr HB.out).ptr hlt
      obtain ⟨b2, o2, s, rfl, HU, hsc, _⟩ := (hs.grown_ne hgr HA.out).str (k := k) (by omega)
      have hsz := HZ.out s (List.mem_of_getElem? HU.out)
      have HTK : Hid (ls.take (k + 1) = ls.take k ++ [s]) := take_at HU.out
      have hlen := wholes_len _ _ HW.out
      have hlk : (ls.take k).length = k := by rw [List.length_take, HL.out]; omega
      have HZK : Hid (zs.length = k) := by rw [Hid, hlen, hlk]
      obtain ⟨cap, w4, HCV, s4, hb5⟩ := conv_bytes (P := Try.prog) wo 9 27 5 s Try.underlying9 Try.underlying27 Try.underlying5
      have hsc4 := cell_later hb5 hsc
      have hbk4 := hbk.later hb5
      have hgr4 := grown_trans hgr (grown_of_below hb5 (some g))
      clear hs hp hbk hgr hb5 hlen hlk
      have bad : ∀ {x : Option Int}, wholeN s = x → x = none → Hid (r = none) := by
        intro x h1 h2
        have h3 : wholes (ls.take (k + 1)) = none := by rw [HTK.out, wholes_snoc, h1, h2]; cases wholes (ls.take k) <;> rfl
        have h4 : ls.take m = ls.take (k + 1) ++ (ls.take m).drop (k + 1) := by
          have := List.take_append_drop (k + 1) (ls.take m)
          rw [List.take_take, Nat.min_eq_left (by omega)] at this
          exact this.symm
        rw [Hid, ← hr.out, h4]
        exact wholes_none _ _ h3
      cases hg : getN s.data.toList with
      | none =>
        have HR := bad (x := wholeN s) rfl (by unfold wholeN; rw [hg])
        have HG := hide hg
        clear hg bad
        go_wp2_with fail
        refine (wire_GetNum_no _ s4 (by omega) HG.out).mono ?_
        rintro e w' ⟨rfl, rfl⟩
        go_wp2_with fail
        go_ret
        exact ⟨ret_bool (by rw [HR.out]; rfl), hgr4, fun zs h => by rw [HR.out] at h; cases h⟩
      | some p =>
        obtain ⟨x, y⟩ := p
        have HG := hide hg
        have hw : wholeN s = if y = s.size then some (x : Int) else none := by unfold wholeN; rw [hg]
        by_cases hy : y = s.size
        · rw [if_pos hy] at hw
          have HW2 : Hid (wholes (ls.take (k + 1)) = some (zs ++ [(x : Int)])) := by rw [Hid, HTK.out, wholes_snoc, HW.out, hw]
          have hos : o < cs.size := HO.out o (List.mem_of_getElem? HOK.out)
          have hx0 : (setAll cs (os.take k) zs)[o]? = some ((setAll cs (os.take k) zs)[o]'(by rw [setAll_size]; exact hos)) := Array.getElem?_eq_getElem _
          have hcell : ∃ u, w4.cell? ⟨g, o, none⟩ = some u := ⟨_, hbk4.at_ hx0⟩
          obtain ⟨u, hcell⟩ := hcell
          have hfr := hbk4.frozen o
          have HBK2 : Hid (Blk (w4.setCell ⟨g, o, none⟩ (.int .i64 x)) g t (setAll cs (os.take (k + 1)) (zs ++ [(x : Int)]))) := by
            rw [Hid, take_at HOK.out, setAll_snoc _ _ _ _ _ (by rw [List.length_take, HPL.out, HZK.out]; omega)]
            exact hbk4.set_ o _
          have HGR2 := hide (grown_trans hgr4 (grown_set w4 g o (.int .i64 x)))
          have hyb : ((y : Int) != (s.size : Int)) = false := by simp; omega
          clear hg hw hy hbk4 hgr4 hx0 bad
          go_wp2_with fail
          refine (wire_GetNum_yes _ s4 (by omega) HG.out).mono ?_
          rintro e w' ⟨rfl, rfl⟩
          clear s4
          go_wp2_with fail
          go_roundw
          case rel => exact ⟨k + 1, _, by omega, by go_num, HW2, HGR2.out, HBK2.out⟩
          case measure => simp [intOf]; omega
        · rw [if_neg hy] at hw
          have HR := bad hw rfl
          have hyb : ((y : Int) != (s.size : Int)) = true := by simp; omega
          clear hg hw hy hbk4 bad
          go_wp2_with fail
          refine (wire_GetNum_yes _ s4 (by omega) HG.out).mono ?_
          rintro e w' ⟨rfl, rfl⟩
          go_wp2_with fail
          go_ret
          exact ⟨ret_bool (by rw [HR.out]; rfl), hgr4, fun zs h => by rw [HR.out] at h; cases h⟩
    · obtain rfl : k = m := by omega
      have HR : Hid (r = some zs) := hr.out.symm.trans HW.out
      rw [List.take_of_length_le (by rw [HPL.out]; exact Nat.le_refl _)] at hbk
      go_wp2_with fail
      go_ret
      exact ⟨ret_bool (by rw [HR.out]; rfl), hgr, fun zs' h => by rw [HR.out] at h; injection h with h; subst h; exact hbk⟩
set_option maxHeartbeats 400000 in
theorem ref4_whole (s : ByteArray) (w : World) (hsz : s.size ≤ 9223372036854775807) : 
    Calls Try.prog 58 #[.string s] w fun e w' => (∃ x : Int, e = .returned (.tuple #[.int .i64 x, .bool (wholeN s).isSome]) ∧ Hid (∀ z, wholeN s = some z → x = z)) ∧ Below w.heap.size w w' := by
  obtain ⟨cap, w4, HCV, s4, hb5⟩ := conv_bytes (P := Try.prog) w 9 27 5 s Try.underlying9 Try.underlying27 Try.underlying5
  cases hg : getN s.data.toList with
  | none =>
    have hw : wholeN s = none := by unfold wholeN; rw [hg]
    have HG := hide (gotN_none hg)
    rw [hw]
    clear hg hw
    go_enter Try.func58, Try.ntmps58
    go_wp2_with fail
    refine (ref2_GetNum _ s4 (by omega)).mono ?_
    rintro e w5 ⟨rfl, hb6⟩
    rw [HG.out]
    have hb7 := below_then hb5 hb6
    clear hb6 hb5 s4
    go_wp2_with fail
    go_ret2
    exact ⟨⟨_, rfl, fun z h => by cases h⟩, hb7⟩
  | some p =>
    obtain ⟨x, y⟩ := p
    have HG := hide (gotN_some hg)
    have hy0 := (getN_some hg).2.2.2.1
    have hw : wholeN s = if y = s.size then some (x : Int) else none := by unfold wholeN; rw [hg]
    by_cases hy : y = s.size
    · rw [if_pos hy] at hw
      have hyb : ((y : Int) == (s.size : Int)) = true := by simp; omega
      rw [hw]
      clear hg hw hy
      go_enter Try.func58, Try.ntmps58
      go_wp2_with fail
      refine (ref2_GetNum _ s4 (by omega)).mono ?_
      rintro e w5 ⟨rfl, hb6⟩
      rw [HG.out]
      have hb7 := below_then hb5 hb6
      clear hb6 hb5 s4
      go_wp2_with fail
      go_ret2
      exact ⟨⟨_, rfl, fun z h => by injection h⟩, hb7⟩
    · rw [if_neg hy] at hw
      have hyb : ((y : Int) == (s.size : Int)) = false := by simp; omega
      rw [hw]
      clear hg hw hy
      go_enter Try.func58, Try.ntmps58
      go_wp2_with fail
      refine (ref2_GetNum _ s4 (by omega)).mono ?_
      rintro e w5 ⟨rfl, hb6⟩
      rw [HG.out]
      have hb7 := below_then hb5 hb6
      clear hb6 hb5 s4
      go_wp2_with fail
      go_ret2
      exact ⟨⟨_, rfl, fun z h => by cases h⟩, hb7⟩
end Go.Proofs.Ytihpmaifcebpiaa
