/-
  The argument of the laws of layer 6, opened: a list of records of a certificate, a number, bytes.
-/
import Derived.Test.YtihpmaifcebpiaaLawHd
import Derived.Test.YtihpmaifcebpiaaHdrL
namespace Go.Proofs.Ytihpmaifcebpiaa
open Go.ChangeShapes Go.WideShapes Go.ChangeAt Go.RowKit Go.Deep
set_option maxRecDepth 100000 in
theorem open_asks6 {R : Nat} {H : Type} {enc : TypeId × Value → H} {W : World} {b0 : Nat} {v : Value} {d : DataW H} {p : List MemPlace}
    (hv : Value.okWide Try.prog W .any b0 46 v) (h : DataW.Trod enc Try.prog W 0 (fun _ => true) true 46 v d p) (hw : ∀ q ∈ d.weights Try.prog 46, q ≤ R) (hR : R ≤ 150000000000001) :
    ∃ A n c, v = .slice A n c ∧ Asks6 W A n := by
  obtain ⟨A, n, c, hA, h1, h2, h3, hrow⟩ := open_top (C := 8) Try.underlying46 (by kernel_rfl) (by omega) hv h hw
  refine ⟨A, n, c, hA, by omega, fun h0 => ?_⟩
  obtain ⟨b, off, rfl, hb, hk⟩ := hrow h0
  refine ⟨b, off, rfl, fun k hkn => ?_⟩
  obtain ⟨cs, N, y, hl, hc, hy, hq⟩ := hk k hkn
  obtain ⟨_, yb, tb, wb⟩ := open_field (C := 6) (T := 51) (off := 0) Try.underlying53 hy hq 0 rfl (by kernel_rfl)
  obtain ⟨_, y6, t6, w6⟩ := open_field (C := 1) (T := 3) (off := 6) Try.underlying53 hy hq 1 rfl (by kernel_rfl)
  obtain ⟨_, y7, t7, w7⟩ := open_field (C := 1) (T := 27) (off := 7) Try.underlying53 hy hq 2 rfl (by kernel_rfl)
  obtain ⟨a, r, A1, n1, c1, xs, A2, n2, c2, ps, d, A3, n3, c3, ss, k0, k1, k2, k3, k4, k5, s1, s2, s3⟩ := open_cert_w (by simp [hl]) tb wb
  obtain ⟨u6, hu6, e6⟩ := one_cell hl (show 6 < 8 by omega)
  obtain ⟨u7, hu7, e7⟩ := one_cell hl (show 7 < 8 by omega)
  rw [e6] at t6
  rw [e7] at t7
  obtain ⟨z6, rfl, _⟩ := trod_int64 Try.underlying3 t6
  obtain ⟨A4, n4, c4, bs, rfl, s4, p3, p4, m4⟩ := open_bytes_w Try.underlying27 Try.underlying5 (by kernel_rfl) t7 w7
  rw [show Try.prog.bytesOf 5 = 1 by kernel_rfl] at m4
  have q := fun j (hj : j < 8) => hc j hj
  exact ⟨⟨⟨a, r, xs, ps⟩, d, ss⟩, A1, n1, c1, A2, n2, c2, A3, n3, c3, z6, A4, n4, c4, bs, (hc 0 (by omega)).trans (sub_cell' (o := 0) (by omega) k0), (hc 1 (by omega)).trans (sub_cell' (o := 0) (by omega) k1), (hc 2 (by omega)).trans (sub_cell' (o := 0) (by omega) k2),
    (hc 3 (by omega)).trans (sub_cell' (o := 0) (by omega) k3), (hc 4 (by omega)).trans (sub_cell' (o := 0) (by omega) k4), (hc 5 (by omega)).trans (sub_cell' (o := 0) (by omega) k5), (hc 6 (by omega)).trans hu6, (hc 7 (by omega)).trans hu7,
    ⟨s1.1, by have := s1.2; omega⟩, ⟨s2.1, by have := s2.2; omega⟩, ⟨s3.1, by have := s3.2; omega⟩, s4, by omega, p3, p4⟩
end Go.Proofs.Ytihpmaifcebpiaa
