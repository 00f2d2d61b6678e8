/-
  The argument of the laws of layer 3, opened: a list of records of two numbers and a list of numbers.
-/
import Derived.Test.YtkjdhjkmnkcgoaaLaw
import Derived.Test.YtkjdhjkmnkcgoaaComC
namespace Go.Proofs.Ytkjdhjkmnkcgoaa
open Go.ChangeShapes Go.WideShapes Go.ChangeAt Go.RowKit Go.Deep
theorem open_asks3 {H : Type} {enc : TypeId × Value → H} {W : World} {b0 : Nat} {v : Value} {d : DataW H} {p : List MemPlace}
    (hv : Value.okWide Try.prog W .any b0 36 v) (h : DataW.Trod enc Try.prog W 0 (fun _ => true) true 36 v d p) :
    ∃ A n c, v = .slice A n c ∧ Asks3 W A n := by
  obtain ⟨A, n, c, rfl, hn, _, _, hrow⟩ := open_rows Try.underlying36 Try.underlying39 (by kernel_rfl) (by kernel_rfl) (by simp) hv h
  refine ⟨A, n, c, rfl, hn, fun h0 => ?_⟩
  obtain ⟨b, off, rfl, hk⟩ := hrow h0
  refine ⟨b, off, rfl, fun k hkn => ?_⟩
  obtain ⟨N, hf⟩ := hk k hkn
  obtain ⟨u0, y0, c0, t0⟩ := hf 0 _ rfl
  obtain ⟨u1, y1, c1, t1⟩ := hf 1 _ rfl
  obtain ⟨u2, y2, c2, t2⟩ := hf 2 _ rfl
  obtain ⟨z0, rfl, _⟩ := trod_int64 Try.underlying3 t0
  obtain ⟨z1, rfl, _⟩ := trod_int64 Try.underlying3 t1
  obtain ⟨A', n', c', xs, rfl, hs, hn', _⟩ := open_ints_sl Try.underlying37 Try.underlying3 (by kernel_rfl) t2
  exact ⟨z0, z1, A', n', c', xs, c0, c1, c2, hs, hn'⟩
end Go.Proofs.Ytkjdhjkmnkcgoaa
