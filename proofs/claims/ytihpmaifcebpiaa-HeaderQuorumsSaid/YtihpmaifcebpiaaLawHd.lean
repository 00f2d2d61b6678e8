/-
  A header, a certificate of the argument, opened.
-/
import Derived.Test.YtihpmaifcebpiaaLawSz
import Derived.Test.YtihpmaifcebpiaaHdr
namespace Go.Proofs.Ytihpmaifcebpiaa
open Go.ChangeShapes Go.WideShapes Go.ChangeAt Go.RowKit Go.Deep
theorem sub_cell' {cs : List Value} {o C j : Nat} {u : Value} (hj : j < C) (h : ((cs.drop o).take C)[j]? = some u) : cs[o + j]? = some u := by
  rw [List.getElem?_take, if_pos hj, List.getElem?_drop] at h; exact h
section
variable {H : Type} {enc : TypeId × Value → H} {w : World} {base : Nat} {spare : Nat → Bool} {held : Bool} {R : Nat}
theorem open_ints8_w {fuel : Nat} {v : Value} {x : DataW H × List MemPlace} (h : DataW.trod enc Try.prog w base spare held fuel 47 [v] = some x) (hw : ∀ q ∈ x.1.weights Try.prog 47, q ≤ R) :
    ∃ A n c xs, v = .slice A n c ∧ Sl w 1 A n (ints xs) ∧ n * 8 ≤ R ∧ n ≤ c ∧ c ≤ 9223372036854775807 := by
  obtain ⟨A, n, c, xs, h1, h2, h3, h4, h5, _⟩ := open_ints_w Try.underlying47 Try.underlying3 (by kernel_rfl) h hw
  rw [show Try.prog.bytesOf 3 = 8 by kernel_rfl] at h5
  exact ⟨A, n, c, xs, h1, h2, h5, h3, h4⟩
set_option maxRecDepth 100000 in
theorem open_hdr_w {N : Nat} {cs : List Value} {y : DataW H × List MemPlace} (hl : cs.length = 4) (h : DataW.trod enc Try.prog w base spare held N 49 cs = some y) (hw : ∀ q ∈ y.1.weights Try.prog 49, q ≤ R) :
    ∃ a r A1 n1 c1 bs A2 n2 c2 ps, cs[0]? = some (.int .i64 a) ∧ cs[1]? = some (.int .i64 r) ∧ cs[2]? = some (.slice A1 n1 c1) ∧ cs[3]? = some (.slice A2 n2 c2) ∧ (Sl w 1 A1 n1 (ints bs) ∧ n1 * 8 ≤ R) ∧ (Sl w 1 A2 n2 (ints ps) ∧ n2 * 8 ≤ R) := by
  obtain ⟨u0, hu0, e0⟩ := one_cell hl (show 0 < 4 by omega)
  obtain ⟨u1, hu1, e1⟩ := one_cell hl (show 1 < 4 by omega)
  obtain ⟨u2, hu2, e2⟩ := one_cell hl (show 2 < 4 by omega)
  obtain ⟨u3, hu3, e3⟩ := one_cell hl (show 3 < 4 by omega)
  obtain ⟨_, y0, t0, _⟩ := open_field (C := 1) (T := 3) (off := 0) Try.underlying49 h hw 0 rfl (by kernel_rfl)
  obtain ⟨_, y1, t1, _⟩ := open_field (C := 1) (T := 3) (off := 1) Try.underlying49 h hw 1 rfl (by kernel_rfl)
  obtain ⟨_, y2, t2, w2⟩ := open_field (C := 1) (T := 47) (off := 2) Try.underlying49 h hw 2 rfl (by kernel_rfl)
  obtain ⟨_, y3, t3, w3⟩ := open_field (C := 1) (T := 47) (off := 3) Try.underlying49 h hw 3 rfl (by kernel_rfl)
  rw [e0] at t0
  rw [e1] at t1
  rw [e2] at t2
  rw [e3] at t3
  obtain ⟨z0, rfl, _⟩ := trod_int64 Try.underlying3 t0
  obtain ⟨z1, rfl, _⟩ := trod_int64 Try.underlying3 t1
  obtain ⟨A1, n1, c1, xs, rfl, s1, m1, _, _⟩ := open_ints8_w t2 w2
  obtain ⟨A2, n2, c2, ys, rfl, s2, m2, _, _⟩ := open_ints8_w t3 w3
  exact ⟨z0, z1, A1, n1, c1, xs, A2, n2, c2, ys, hu0, hu1, hu2, hu3, ⟨s1, m1⟩, s2, m2⟩
set_option maxRecDepth 100000 in
theorem open_cert_w {N : Nat} {cs : List Value} {y : DataW H × List MemPlace} (hl : cs.length = 6) (h : DataW.trod enc Try.prog w base spare held N 51 cs = some y) (hw : ∀ q ∈ y.1.weights Try.prog 51, q ≤ R) :
    ∃ a r A1 n1 c1 bs A2 n2 c2 ps d A3 n3 c3 ss, cs[0]? = some (.int .i64 a) ∧ cs[1]? = some (.int .i64 r) ∧ cs[2]? = some (.slice A1 n1 c1) ∧ cs[3]? = some (.slice A2 n2 c2) ∧ cs[4]? = some (.int .i64 d) ∧ cs[5]? = some (.slice A3 n3 c3) ∧
      (Sl w 1 A1 n1 (ints bs) ∧ n1 * 8 ≤ R) ∧ (Sl w 1 A2 n2 (ints ps) ∧ n2 * 8 ≤ R) ∧ (Sl w 1 A3 n3 (ints ss) ∧ n3 * 8 ≤ R) := by
  obtain ⟨_, y0, t0, w0⟩ := open_field (C := 4) (T := 49) (off := 0) Try.underlying51 h hw 0 rfl (by kernel_rfl)
  obtain ⟨u4, hu4, e4⟩ := one_cell hl (show 4 < 6 by omega)
  obtain ⟨u5, hu5, e5⟩ := one_cell hl (show 5 < 6 by omega)
  obtain ⟨_, y1, t1, _⟩ := open_field (C := 1) (T := 3) (off := 4) Try.underlying51 h hw 1 rfl (by kernel_rfl)
  obtain ⟨_, y2, t2, w2⟩ := open_field (C := 1) (T := 47) (off := 5) Try.underlying51 h hw 2 rfl (by kernel_rfl)
  obtain ⟨a, r, A1, n1, c1, bs, A2, n2, c2, ps, k0, k1, k2, k3, s1, s2⟩ := open_hdr_w (by simp [hl]) t0 w0
  rw [e4] at t1
  rw [e5] at t2
  obtain ⟨z1, rfl, _⟩ := trod_int64 Try.underlying3 t1
  obtain ⟨A3, n3, c3, xs, rfl, s3, m3, _, _⟩ := open_ints8_w t2 w2
  exact ⟨a, r, A1, n1, c1, bs, A2, n2, c2, ps, z1, A3, n3, c3, xs, sub_cell' (o := 0) (by omega) k0, sub_cell' (o := 0) (by omega) k1, sub_cell' (o := 0) (by omega) k2, sub_cell' (o := 0) (by omega) k3, hu4, hu5, s1, s2, s3, m3⟩
end
end Go.Proofs.Ytihpmaifcebpiaa
