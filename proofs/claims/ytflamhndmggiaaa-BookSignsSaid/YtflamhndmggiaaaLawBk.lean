
/-
  The argument of the laws of layer 5, opened: a list of records of three numbers and bytes.
-/
import Derived.Test.YtflamhndmggiaaaLawSz
import Derived.Test.YtflamhndmggiaaaBkW
namespace Go.Proofs.Ytflamhndmggiaaa
open Go.ChangeShapes Go.WideShapes Go.ChangeAt Go.RowKit Go.Deep
set_option maxRecDepth 100000 in
theorem open_acts5 {R : Nat} {H : Type} {enc : TypeId × Value → H} {W : World} {b0 : Nat} {v : Value} {d : DataW H} {p : List MemPlace}
    (hv : Value.okWide Try.prog W .any b0 22 v) (h : DataW.Trod enc Try.prog W 0 (fun _ => true) true 22 v d p) (hw : ∀ q ∈ d.weights Try.prog 22, q ≤ R) (hR : R ≤ 150000000000001) :
    ∃ A n c, v = .slice A n c ∧ Acts5 W A n := by
  obtain ⟨A, n, c, hA, h1, h2, h3, hrow⟩ := open_top (C := 4) Try.underlying22 (by kernel_rfl) (by omega) hv h hw
  refine ⟨A, n, c, hA, by omega, fun h0 => ?_⟩
  obtain ⟨b, off, rfl, hb, hk⟩ := hrow h0
  refine ⟨b, off, rfl, fun k hkn => ?_⟩
  obtain ⟨cs, N, y, hl, hc, hy, hq⟩ := hk k hkn
  obtain ⟨u0, hu0, e0⟩ := one_cell hl (show 0 < 4 by omega)
  obtain ⟨u1, hu1, e1⟩ := one_cell hl (show 1 < 4 by omega)
  obtain ⟨u2, hu2, e2⟩ := one_cell hl (show 2 < 4 by omega)
  obtain ⟨u3, hu3, e3⟩ := one_cell hl (show 3 < 4 by omega)
  have q0 := (hc 0 (by omega)).trans hu0
  have q1 := (hc 1 (by omega)).trans hu1
  have q2 := (hc 2 (by omega)).trans hu2
  have q3 := (hc 3 (by omega)).trans hu3
  obtain ⟨_, y0, t0, _⟩ := open_field (C := 1) (T := 3) (off := 0) Try.underlying34 hy hq 0 rfl (by kernel_rfl)
  obtain ⟨_, y1, t1, _⟩ := open_field (C := 1) (T := 3) (off := 1) Try.underlying34 hy hq 1 rfl (by kernel_rfl)
  obtain ⟨_, y2, t2, _⟩ := open_field (C := 1) (T := 3) (off := 2) Try.underlying34 hy hq 2 rfl (by kernel_rfl)
  obtain ⟨_, y3, t3, w3⟩ := open_field (C := 1) (T := 28) (off := 3) Try.underlying34 hy hq 3 rfl (by kernel_rfl)
  rw [e0] at t0
  rw [e1] at t1
  rw [e2] at t2
  rw [e3] at t3
  obtain ⟨z0, rfl, hz0⟩ := trod_int64 Try.underlying3 t0
  obtain ⟨z1, rfl, hz1⟩ := trod_int64 Try.underlying3 t1
  obtain ⟨z2, rfl, hz2⟩ := trod_int64 Try.underlying3 t2
  obtain ⟨A3, n3, c3, bs, rfl, s3, p3, p4, m3⟩ := open_bytes_w Try.underlying28 Try.underlying5 (by kernel_rfl) t3 w3
  rw [show Try.prog.bytesOf 5 = 1 by kernel_rfl] at m3
  exact ⟨z0, z1, z2, A3, n3, c3, bs, q0, q1, q2, q3, hz0, hz1, hz2, s3, by omega, p3, p4⟩
end Go.Proofs.Ytflamhndmggiaaa
