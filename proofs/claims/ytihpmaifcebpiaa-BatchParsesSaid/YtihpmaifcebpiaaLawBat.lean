/-
  The argument of the laws of layer 4, opened: a list of records of a batch, bytes.
-/
import Derived.Test.YtihpmaifcebpiaaLawTx
import Derived.Test.YtihpmaifcebpiaaBatL
namespace Go.Proofs.Ytihpmaifcebpiaa
open Go.ChangeShapes Go.WideShapes Go.ChangeAt Go.RowKit Go.Deep
theorem drop_take3 {cs : List Value} (hl : cs.length = 4) : ((cs.drop 0).take 3).length = 3 := by simp [hl]
theorem sub_cell {cs : List Value} {o C j : Nat} {u : Value} (hj : j < C) (h : ((cs.drop o).take C)[j]? = some u) : cs[o + j]? = some u := by
  rw [List.getElem?_take, if_pos hj, List.getElem?_drop] at h; exact h
set_option maxRecDepth 100000 in
theorem open_asks4 {R : Nat} {H : Type} {enc : TypeId × Value → H} {W : World} {b0 : Nat} {v : Value} {d : DataW H} {p : List MemPlace}
    (hv : Value.okWide Try.prog W .any b0 22 v) (h : DataW.Trod enc Try.prog W 0 (fun _ => true) true 22 v d p) (hw : ∀ q ∈ d.weights Try.prog 22, q ≤ R) (hR : R ≤ 150000000000001) :
    ∃ A n c, v = .slice A n c ∧ Asks4 W A n := by
  obtain ⟨A, n, c, hA, h1, h2, h3, hrow⟩ := open_top (C := 4) Try.underlying22 (by kernel_rfl) (by omega) hv h hw
  refine ⟨A, n, c, hA, by omega, fun h0 => ?_⟩
  obtain ⟨b, off, rfl, hb, hk⟩ := hrow h0
  refine ⟨b, off, rfl, fun k hkn => ?_⟩
  obtain ⟨cs, N, y, hl, hc, hy, hq⟩ := hk k hkn
  obtain ⟨_, yb, tb, wb⟩ := open_field (C := 3) (T := 26) (off := 0) Try.underlying29 hy hq 0 rfl (by kernel_rfl)
  obtain ⟨_, y3, t3, w3⟩ := open_field (C := 1) (T := 27) (off := 3) Try.underlying29 hy hq 1 rfl (by kernel_rfl)
  have hl3 := drop_take3 hl
  obtain ⟨u0, hu0, e0⟩ := one_cell hl3 (show 0 < 3 by omega)
  obtain ⟨u1, hu1, e1⟩ := one_cell hl3 (show 1 < 3 by omega)
  obtain ⟨u2, hu2, e2⟩ := one_cell hl3 (show 2 < 3 by omega)
  obtain ⟨u3, hu3, e3⟩ := one_cell hl (show 3 < 4 by omega)
  have q0 := (hc 0 (by omega)).trans (sub_cell (o := 0) (by omega) hu0)
  have q1 := (hc 1 (by omega)).trans (sub_cell (o := 0) (by omega) hu1)
  have q2 := (hc 2 (by omega)).trans (sub_cell (o := 0) (by omega) hu2)
  have q3 := (hc 3 (by omega)).trans hu3
  obtain ⟨_, y0, t0, _⟩ := open_field (C := 1) (T := 3) (off := 0) Try.underlying26 tb wb 0 rfl (by kernel_rfl)
  obtain ⟨_, y1, t1, _⟩ := open_field (C := 1) (T := 3) (off := 1) Try.underlying26 tb wb 1 rfl (by kernel_rfl)
  obtain ⟨_, y2, t2, w2⟩ := open_field (C := 1) (T := 24) (off := 2) Try.underlying26 tb wb 2 rfl (by kernel_rfl)
  rw [e0] at t0
  rw [e1] at t1
  rw [e2] at t2
  rw [e3] at t3
  obtain ⟨z0, rfl, _⟩ := trod_int64 Try.underlying3 t0
  obtain ⟨z1, rfl, _⟩ := trod_int64 Try.underlying3 t1
  obtain ⟨A1, n1, c1, l, rfl, s1, _, _, m1, b1⟩ := open_txs_w t2 w2
  obtain ⟨A3, n3, c3, bs, rfl, s3, p3, p4, m3⟩ := open_bytes_w Try.underlying27 Try.underlying5 (by kernel_rfl) t3 w3
  rw [show Try.prog.bytesOf 5 = 1 by kernel_rfl] at m3
  exact ⟨z0, z1, A1, n1, c1, l, A3, n3, c3, bs, q0, q1, q2, q3, ⟨s1, by omega, fun t ht => by have := b1 t ht; omega⟩, s3, by omega, p3, p4⟩
end Go.Proofs.Ytihpmaifcebpiaa
