/-
  Texts joined: words and contracts that later texts use; lemmas alone, no conditions of a statement.
-/
import Derived.Test.YtflamhndmggiaaaGr13
import Derived.Lib.SlBytesConst
import Derived.Test.YtflamhndmggiaaaGr00
set_option linter.unusedVariables false
set_option linter.unusedSimpArgs false
/-
  Contracts of package net in one word: Double, Drop, Clear; the statements' num, wakes.
-/
namespace Go.Proofs.Ytflamhndmggiaaa
open Go.RowKit

section
variable {w0 w w' : World} {g : Nat} {S : Int × Int → List (List UInt8)}
theorem nw_Double_no (a b k : Int) (h : NtW w0 w g S) (hk : k < 0 ∨ ((S (a, b)).length : Int) ≤ k) : Calls Try.prog 44 #[.pointer (some ⟨g, 0, none⟩), .int .i64 a, .int .i64 b, .int .i64 k] w fun e w' => e = .returned (.int .i64 3) ∧ NtW w0 w' g S := by
  have h0 := h
  obtain ⟨F, m, rows, st, h1, h2, _, _⟩ := h
  refine (net_Double_no a b h1 k (by rw [len_S h2]; exact hk)).mono ?_
  rintro e w' ⟨rfl, hb⟩
  exact ⟨rfl, h0.below hb⟩
theorem nw_Double_full {i : Nat} (a b : Int) (h : NtW w0 w g S) (hi : i < (S (a, b)).length) (hN : (nodeB a && nodeB b) = true) (hL : (S (a, b)).length = 1024) : Calls Try.prog 44 #[.pointer (some ⟨g, 0, none⟩), .int .i64 a, .int .i64 b, .int .i64 (i : Int)] w fun e w' => e = .returned (.int .i64 8) ∧ NtW w0 w' g S := by
  have h0 := h
  obtain ⟨F, m, rows, st, h1, h2, _, _⟩ := h
  obtain ⟨p, hp, _⟩ := at_S h2 (List.getElem?_eq_getElem hi)
  refine (net_Double_full a b h1 hp hN (by rw [len_S h2]; exact hL)).mono ?_
  rintro e w' ⟨rfl, hb⟩
  exact ⟨rfl, h0.below hb⟩
theorem nw_Double_ok {i : Nat} {x : List UInt8} (a b : Int) (h : NtW w0 w g S) (hi : (S (a, b))[i]? = some x) (hN : (nodeB a && nodeB b) = true) (hL : (S (a, b)).length < 1024) :
    Calls Try.prog 44 #[.pointer (some ⟨g, 0, none⟩), .int .i64 a, .int .i64 b, .int .i64 (i : Int)] w fun e w' => e = .returned (.int .i64 0) ∧ NtW w0 w' g (updF S (a, b) (S (a, b) ++ [x])) := by
  obtain ⟨F, m, rows, st, h1, h2, h3, h4⟩ := h
  obtain ⟨p, hp, rfl⟩ := at_S h2 hi
  refine (net_Double_ok a b h1 hp hN (by rw [len_S h2]; exact hL)).mono ?_
  rintro e w' ⟨rfl, F', V', u, hJ, hF, hc⟩
  refine ⟨rfl, F', m, _, _, hJ, fun q => ?_, fun q hq => (hF q hq).elim (h3 q) (fun h => Nat.le_trans h4.size h), rowG_low h1 h3 h4 hc⟩
  rw [updS h2, List.map_append, h2]
  rfl
theorem nw_Drop_no (a b k : Int) (h : NtW w0 w g S) (hk : k < 0 ∨ ((S (a, b)).length : Int) ≤ k) : Calls Try.prog 53 #[.pointer (some ⟨g, 0, none⟩), .int .i64 a, .int .i64 b, .int .i64 k] w fun e w' => e = .returned (.int .i64 3) ∧ NtW w0 w' g S := by
  have h0 := h
  obtain ⟨F, m, rows, st, h1, h2, _, _⟩ := h
  refine (net_Drop_no a b h1 k (by rw [len_S h2]; exact hk)).mono ?_
  rintro e w' ⟨rfl, hb⟩
  exact ⟨rfl, h0.below hb⟩
theorem nw_Drop_ok {i : Nat} (a b : Int) (h : NtW w0 w g S) (hi : i < (S (a, b)).length) :
    Calls Try.prog 53 #[.pointer (some ⟨g, 0, none⟩), .int .i64 a, .int .i64 b, .int .i64 (i : Int)] w fun e w' => e = .returned (.int .i64 0) ∧ NtW w0 w' g (updF S (a, b) ((S (a, b)).eraseIdx i)) := by
  obtain ⟨F, m, rows, st, h1, h2, h3, h4⟩ := h
  obtain ⟨p, hp, _⟩ := at_S h2 (List.getElem?_eq_getElem hi)
  refine (net_Drop_ok a b h1 hp).mono ?_
  rintro e w' ⟨rfl, V', hJ, ho, hc⟩
  refine ⟨rfl, _, m, _, _, hJ, fun q => ?_, fun q hq => h3 q hq.1, rowG_low h1 h3 h4 hc⟩
  rw [updS h2, ChangeMaps.map_eraseIdx, h2]
def clrS (b : Int) (S : Int × Int → List (List UInt8)) : (Int × Int → List (List UInt8)) := fun q => if q.2 = b ∧ 1 ≤ q.1 ∧ q.1 < 17 then [] else S q
theorem nw_Clear (b : Int) (h : NtW w0 w g S) : Calls Try.prog 50 #[.pointer (some ⟨g, 0, none⟩), .int .i64 b] w fun e w' => e = .returned (.tuple #[]) ∧ NtW w0 w' g (clrS b S) := by
  obtain ⟨F, m, rows, st, h1, h2, h3, h4⟩ := h
  refine (net_Clear b h1).mono ?_
  rintro e w' ⟨rfl, rows', st', hJ, hst, hc⟩
  refine ⟨rfl, F, m, _, _, hJ, fun q => ?_, h3, h4.trans (hc.to_below (fun q hq => by subst hq; exact h3 _ h1.fm) h4.size)⟩
  rw [hst q]
  unfold clr clrS
  split
  · rename_i hq
    rw [if_pos (by simpa using hq)]; rfl
  · rename_i hq
    rw [if_neg (by simpa using hq)]; exact h2 q
/-- Those that change nothing. -/
theorem nb_Put_form {A : Option Addr} {n c : Nat} (a b : Int) (h : NtW w0 w g S) (hN : (nodeB a && nodeB b) = false) : Calls Try.prog 43 #[.pointer (some ⟨g, 0, none⟩), .int .i64 a, .int .i64 b, .slice A n c] w fun e w' => e = .returned (.int .i64 1) ∧ Below w.heap.size w w' := by
  obtain ⟨F, m, rows, st, h1, h2, _, _⟩ := h
  exact net_Put_form (x := []) a b h1 hN
theorem nb_Put_full {A : Option Addr} {n c : Nat} (a b : Int) (h : NtW w0 w g S) (hN : (nodeB a && nodeB b) = true) (hL : (S (a, b)).length = 1024) : Calls Try.prog 43 #[.pointer (some ⟨g, 0, none⟩), .int .i64 a, .int .i64 b, .slice A n c] w fun e w' => e = .returned (.int .i64 8) ∧ Below w.heap.size w w' := by
  obtain ⟨F, m, rows, st, h1, h2, _, _⟩ := h
  exact net_Put_full (x := []) a b h1 hN (by rw [len_S h2]; exact hL)
theorem nb_Take_no (a b k : Int) (h : NtW w0 w g S) (hk : k < 0 ∨ ((S (a, b)).length : Int) ≤ k) : Calls Try.prog 46 #[.pointer (some ⟨g, 0, none⟩), .int .i64 a, .int .i64 b, .int .i64 k] w fun e w' => e = .returned (.tuple #[.slice none 0 0, .int .i64 3]) ∧ Below w.heap.size w w' := by
  obtain ⟨F, m, rows, st, h1, h2, _, _⟩ := h
  exact net_Take_no a b h1 k (by rw [len_S h2]; exact hk)
theorem nb_Double_no (a b k : Int) (h : NtW w0 w g S) (hk : k < 0 ∨ ((S (a, b)).length : Int) ≤ k) : Calls Try.prog 44 #[.pointer (some ⟨g, 0, none⟩), .int .i64 a, .int .i64 b, .int .i64 k] w fun e w' => e = .returned (.int .i64 3) ∧ Below w.heap.size w w' := by
  obtain ⟨F, m, rows, st, h1, h2, _, _⟩ := h
  exact net_Double_no a b h1 k (by rw [len_S h2]; exact hk)
theorem nb_Double_full {i : Nat} (a b : Int) (h : NtW w0 w g S) (hi : i < (S (a, b)).length) (hN : (nodeB a && nodeB b) = true) (hL : (S (a, b)).length = 1024) : Calls Try.prog 44 #[.pointer (some ⟨g, 0, none⟩), .int .i64 a, .int .i64 b, .int .i64 (i : Int)] w fun e w' => e = .returned (.int .i64 8) ∧ Below w.heap.size w w' := by
  obtain ⟨F, m, rows, st, h1, h2, _, _⟩ := h
  obtain ⟨p, hp, _⟩ := at_S h2 (List.getElem?_eq_getElem hi)
  exact net_Double_full a b h1 hp hN (by rw [len_S h2]; exact hL)
end
theorem law12_num (n : Int) (w : World) : Calls Try.prog 42 #[.int .i64 n] w fun e w' => e = .returned (.int .i64 n) ∧ w = w' := by
  go_enter Try.func42, Try.ntmps42
  go_wp2_with fail
  go_ret
  exact ⟨rfl, rfl⟩
set_option maxRecDepth 100000 in
set_option maxHeartbeats 1000000 in
theorem law12_wakes (w : World) : Calls Try.prog 47 #[] w fun e w' => e = .returned (.bool true) ∧ Below w.heap.size w w' := by
  have kc := fun (w : World) (C : Array Value) (n c : Nat) => Lib.run_convert_bytes_const (P := Try.prog) w 28 5 C n c Try.underlying28 Try.underlying5
  go_enter Try.func47, Try.ntmps47
  go_wp2_with fail
  refine (nw_New _).mono ?_
  rintro e w1 ⟨g, rfl, hN⟩
  have HN := hide hN
  clear hN
  go_wp2_with fail
  have HS : Hid (Sl (w1.alloc (.cells #[.int .u8 97] 5 (1, 2))) 1 (some ⟨w1.heap.size, 0, none⟩) 1 (bytes8 [97])) := Sl.marked w1 5 #[.int .u8 97] (1, 2)
  have HN2 := hide (HN.out.below ((Below.refl _ _).alloc (Nat.le_refl _) (.cells #[.int .u8 97] 5 (1, 2))))
  refine (nw_Put_ok (x := [97]) 1 2 HN2.out (by decide) (by decide) HS.out (by omega)).mono ?_
  rintro e w2 ⟨rfl, hN3⟩
  have HN3 := hide hN3
  clear hN3 HN2 HS HN
  go_wp2_with fail
  refine (law12_num _ _).mono ?_
  rintro e w' ⟨rfl, rfl⟩
  go_wp2_with fail
  refine (nw_Take_ok (i := 0) (x := [97]) 1 2 HN3.out rfl).mono ?_
  rintro e w3 ⟨v, rfl, ho, _, hN4, _⟩
  obtain ⟨A, c, rfl⟩ := own_slice ho
  have HN4 := hide hN4
  have HV := hide (Sl.of_own ho)
  clear hN4 ho HN3
  go_wp2_with fail
  refine (law12_num _ _).mono ?_
  rintro e w' ⟨rfl, rfl⟩
  go_wp2_with fail
  have HS : Hid (Sl (w3.alloc (.cells #[.int .u8 97] 5 (1, 2))) 1 (some ⟨w3.heap.size, 0, none⟩) 1 (bytes8 [97])) := Sl.marked w3 5 #[.int .u8 97] (1, 2)
  have HV2 := hide (HV.out.below ((Below.refl _ _).alloc (Nat.le_refl _) (.cells #[.int .u8 97] 5 (1, 2))))
  have HN5 := hide (HN4.out.below ((Below.refl _ _).alloc (Nat.le_refl _) (.cells #[.int .u8 97] 5 (1, 2))))
  refine (eqBytes_b (xs := [97]) (ys := [97]) _ HV2.out (by decide) HS.out (by decide) (r := true) rfl).mono ?_
  rintro e w4 ⟨rfl, hb⟩
  have HB := hide (HN5.out.below hb).old
  clear hb
  go_wp2_with fail
  go_ret
  exact ⟨rfl, HB.out⟩
end Go.Proofs.Ytflamhndmggiaaa
/-
  The argument of the laws of layer 12, opened: a list of records of four numbers and bytes.
-/
namespace Go.Proofs.Ytflamhndmggiaaa
open Go.ChangeShapes Go.WideShapes Go.ChangeAt Go.RowKit Go.Deep
/-- Law 12's argument: at each place four numbers, bytes. -/
def Acts12 (w : World) (A : Option Addr) (n : Nat) : Prop :=
  n ≤ 9223372036854775807 ∧ (0 < n → ∃ b off, A = some ⟨b, off, none⟩ ∧ ∀ k, k < n → ∃ z0 z1 z2 z3 A4 n4 c4 bs, w.cell? ⟨b, off + k * 5 + 0, none⟩ = some (.int .i64 z0) ∧ w.cell? ⟨b, off + k * 5 + 1, none⟩ = some (.int .i64 z1) ∧ w.cell? ⟨b, off + k * 5 + 2, none⟩ = some (.int .i64 z2) ∧ w.cell? ⟨b, off + k * 5 + 3, none⟩ = some (.int .i64 z3) ∧
    w.cell? ⟨b, off + k * 5 + 4, none⟩ = some (.slice A4 n4 c4) ∧ (-9223372036854775808 ≤ z0 ∧ z0 ≤ 9223372036854775807) ∧ (-9223372036854775808 ≤ z1 ∧ z1 ≤ 9223372036854775807) ∧ (-9223372036854775808 ≤ z2 ∧ z2 ≤ 9223372036854775807) ∧ (-9223372036854775808 ≤ z3 ∧ z3 ≤ 9223372036854775807) ∧
    Sl w 1 A4 n4 (bytes8 bs) ∧ n4 ≤ 150000000000001 ∧ n4 ≤ c4 ∧ c4 ≤ 9223372036854775807)
set_option maxRecDepth 100000 in
theorem open_acts12 {R : Nat} {H : Type} {enc : TypeId × Value → H} {W : World} {b0 : Nat} {v : Value} {d : DataW H} {p : List MemPlace}
    (hv : Value.okWide Try.prog W .any b0 62 v) (h : DataW.Trod enc Try.prog W 0 (fun _ => true) true 62 v d p) (hw : ∀ q ∈ d.weights Try.prog 62, q ≤ R) (hR : R ≤ 150000000000001) :
    ∃ A n c, v = .slice A n c ∧ Acts12 W A n := by
  obtain ⟨A, n, c, hA, h1, h2, h3, hrow⟩ := open_top (C := 5) Try.underlying62 (by kernel_rfl) (by omega) hv h hw
  refine ⟨A, n, c, hA, by omega, fun h0 => ?_⟩
  obtain ⟨b, off, rfl, hb, hk⟩ := hrow h0
  refine ⟨b, off, rfl, fun k hkn => ?_⟩
  obtain ⟨cs, N, y, hl, hc, hy, hq⟩ := hk k hkn
  obtain ⟨u0, hu0, e0⟩ := one_cell hl (show 0 < 5 by omega)
  obtain ⟨u1, hu1, e1⟩ := one_cell hl (show 1 < 5 by omega)
  obtain ⟨u2, hu2, e2⟩ := one_cell hl (show 2 < 5 by omega)
  obtain ⟨u3, hu3, e3⟩ := one_cell hl (show 3 < 5 by omega)
  obtain ⟨u4, hu4, e4⟩ := one_cell hl (show 4 < 5 by omega)
  have q0 := (hc 0 (by omega)).trans hu0
  have q1 := (hc 1 (by omega)).trans hu1
  have q2 := (hc 2 (by omega)).trans hu2
  have q3 := (hc 3 (by omega)).trans hu3
  have q4 := (hc 4 (by omega)).trans hu4
  obtain ⟨_, y0, t0, _⟩ := open_field (C := 1) (T := 3) (off := 0) Try.underlying68 hy hq 0 rfl (by kernel_rfl)
  obtain ⟨_, y1, t1, _⟩ := open_field (C := 1) (T := 3) (off := 1) Try.underlying68 hy hq 1 rfl (by kernel_rfl)
  obtain ⟨_, y2, t2, _⟩ := open_field (C := 1) (T := 3) (off := 2) Try.underlying68 hy hq 2 rfl (by kernel_rfl)
  obtain ⟨_, y3, t3, _⟩ := open_field (C := 1) (T := 3) (off := 3) Try.underlying68 hy hq 3 rfl (by kernel_rfl)
  obtain ⟨_, y4, t4, w4⟩ := open_field (C := 1) (T := 28) (off := 4) Try.underlying68 hy hq 4 rfl (by kernel_rfl)
  rw [e0] at t0
  rw [e1] at t1
  rw [e2] at t2
  rw [e3] at t3
  rw [e4] at t4
  obtain ⟨z0, rfl, hz0⟩ := trod_int64 Try.underlying3 t0
  obtain ⟨z1, rfl, hz1⟩ := trod_int64 Try.underlying3 t1
  obtain ⟨z2, rfl, hz2⟩ := trod_int64 Try.underlying3 t2
  obtain ⟨z3, rfl, hz3⟩ := trod_int64 Try.underlying3 t3
  obtain ⟨A4, n4, c4, bs, rfl, s4, p3, p4, m4⟩ := open_bytes_w Try.underlying28 Try.underlying5 (by kernel_rfl) t4 w4
  rw [show Try.prog.bytesOf 5 = 1 by kernel_rfl] at m4
  exact ⟨z0, z1, z2, z3, A4, n4, c4, bs, q0, q1, q2, q3, q4, hz0, hz1, hz2, hz3, s4, by omega, p3, p4⟩
end Go.Proofs.Ytflamhndmggiaaa
