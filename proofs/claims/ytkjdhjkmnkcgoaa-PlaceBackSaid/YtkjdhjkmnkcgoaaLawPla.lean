/-
  The argument of the laws of layer 1, opened: a list of records of two numbers and two pairs of floats.
-/
import Derived.Test.YtkjdhjkmnkcgoaaLaw
import Derived.Test.YtkjdhjkmnkcgoaaPld
namespace Go.Proofs.Ytkjdhjkmnkcgoaa
open Go.ChangeShapes Go.WideShapes Go.ChangeAt Go.RowKit Go.Deep
theorem open_asks1 {H : Type} {enc : TypeId × Value → H} {W : World} {b0 : Nat} {v : Value} {d : DataW H} {p : List MemPlace}
    (hv : Value.okWide Try.prog W .any b0 22 v) (h : DataW.Trod enc Try.prog W 0 (fun _ => true) true 22 v d p) :
    ∃ A n c, v = .slice A n c ∧ Asks1 W A n := by
  obtain ⟨A, n, c, rfl, hn, _, _, hrow⟩ := open_elems Try.underlying22 (C := 6) (by kernel_rfl) (by omega) hv h
  refine ⟨A, n, c, rfl, hn, fun h0 => ?_⟩
  obtain ⟨b, off, rfl, _, hk⟩ := hrow h0
  refine ⟨b, off, rfl, fun k hkn => ?_⟩
  obtain ⟨N, cs, y, hl, hc, ht⟩ := hk k hkn
  match cs, hl with
  | [v0, v1, v2, v3, v4, v5], _ =>
    obtain ⟨xs, m, _, _, _, hlx, hf⟩ := DataW.trod_struct Try.underlying30 ht
    have k3 : Try.prog.cellsOf 3 = 1 := by kernel_rfl
    have k28 : Try.prog.cellsOf 28 = 2 := by kernel_rfl
    have k27 : Try.prog.cellsOf 27 = 1 := by kernel_rfl
    obtain ⟨y0, f0⟩ := field_at hf hlx 0 rfl k3
    obtain ⟨y1, f1⟩ := field_at hf hlx 1 rfl k3
    obtain ⟨y2, f2⟩ := field_at hf hlx 2 rfl k28
    obtain ⟨y3, f3⟩ := field_at hf hlx 3 rfl k28
    obtain ⟨z0, rfl, _⟩ := trod_int64 Try.underlying3 f0
    obtain ⟨z1, rfl, _⟩ := trod_int64 Try.underlying3 f1
    obtain ⟨xs2, m2, _, _, _, hl2, g2⟩ := DataW.trod_array Try.underlying28 f2
    obtain ⟨xs3, m3, _, _, _, hl3, g3⟩ := DataW.trod_array Try.underlying28 f3
    obtain ⟨w0, a0⟩ := array_at g2 hl2 0 (by omega) k27
    obtain ⟨w1, a1⟩ := array_at g2 hl2 1 (by omega) k27
    obtain ⟨w2, b0⟩ := array_at g3 hl3 0 (by omega) k27
    obtain ⟨w3, b1⟩ := array_at g3 hl3 1 (by omega) k27
    obtain ⟨x0, rfl⟩ := trod_f64 Try.underlying27 a0
    obtain ⟨x1, rfl⟩ := trod_f64 Try.underlying27 a1
    obtain ⟨x2, rfl⟩ := trod_f64 Try.underlying27 b0
    obtain ⟨x3, rfl⟩ := trod_f64 Try.underlying27 b1
    exact ⟨z0, z1, x0, x1, x2, x3, hc 0 _ rfl, hc 1 _ rfl, hc 2 _ rfl, hc 3 _ rfl, hc 4 _ rfl, hc 5 _ rfl⟩
end Go.Proofs.Ytkjdhjkmnkcgoaa
