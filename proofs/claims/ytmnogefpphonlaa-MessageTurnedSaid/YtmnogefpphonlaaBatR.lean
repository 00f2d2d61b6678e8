/-
  Plain facts: what no batch's bytes are; unlike batches have unlike bytes.
-/
import Derived.Test.YtmnogefpphonlaaGr07
set_option linter.unusedVariables false
set_option linter.unusedSimpArgs false
namespace Go.Proofs.Ytmnogefpphonlaa
open Go.RowKit

section
variable {a n : Int} {l : List TxD}
theorem parseB_behind (h : mayB a n l = true) : parseB (batchB a n l ++ [0]) = none := by
  obtain ⟨h1, h2⟩ := batch_size h
  unfold parseB
  rw [show getT (batchB a n l ++ [0]) = none from getL_behind codecT (fun s hs => by have := h1 s hs; omega) (by rw [putL_T]; show (batchB a n l).length ≤ _; omega) (by simp)]
theorem parseB_begin (h : mayB a n l = true) {k : Nat} (hk : k < (batchB a n l).length) : parseB ((batchB a n l).take k) = none := by
  obtain ⟨h1, h2⟩ := batch_size h
  unfold parseB
  rw [show getT ((batchB a n l).take k) = none from getL_begin codecT (fun s hs => by have := h1 s hs; omega) (by rw [putL_T]; show (batchB a n l).length ≤ _; omega) (by rw [putL_T]; exact hk)]
theorem batchB_inj {a' n' : Int} {l' : List TxD} (h : mayB a n l = true) (h' : mayB a' n' l' = true) : (batchB a n l == batchB a' n' l') = decide (a = a' ∧ n = n' ∧ l = l') := by
  rw [Bool.eq_iff_iff, beq_iff_eq, decide_eq_true_eq]
  constructor
  · intro e
    have h1 := parseB_there h
    rw [e, parseB_there h'] at h1
    simp only [Option.some.injEq, Prod.mk.injEq] at h1
    exact ⟨h1.1.symm, h1.2.1.symm, h1.2.2.symm⟩
  · rintro ⟨rfl, rfl, rfl⟩; rfl
theorem turned_other {a' n' : Int} {l' : List TxD} {bs : List UInt8} (h : parseB bs = some (a', n', l')) (hne : bs ≠ batchB a n l) : decide (a' = a ∧ n' = n ∧ l' = l) = false := by
  rw [decide_eq_false_iff_not]
  rintro ⟨rfl, rfl, rfl⟩
  exact hne (parseB_back h).1
theorem may_z {a n : Int} {l : List TxD} (h : mayB a n l = true) : l.length ≤ 8 ∧ TxZ l := by
  obtain ⟨_, _, h3, h4⟩ := mayB_iff.1 h
  refine ⟨h3.2, fun t ht => ?_⟩
  obtain ⟨_, _, g3, g4⟩ := mayTx_iff.1 (h4 t ht)
  omega
end
/-! A byte turned. -/
theorem set_ne {bs : List UInt8} {j : Nat} {u v : UInt8} (h : bs[j]? = some u) (hne : v ≠ u) : bs.set j v ≠ bs := by
  intro e
  have h1 : (bs.set j v)[j]? = some v := by rw [List.getElem?_set_self (lt_of_at h)]
  rw [e, h] at h1
  injection h1 with h1
  exact hne h1.symm
theorem xor_ne (u : UInt8) {d : Nat} (h0 : 0 < d) (h1 : d < 256) : u ^^^ UInt8.ofNat d ≠ u := by
  intro e
  have h2 : u ^^^ (u ^^^ UInt8.ofNat d) = u ^^^ u := by rw [e]
  rw [← UInt8.xor_assoc, UInt8.xor_self, UInt8.zero_xor] at h2
  have h3 := congrArg UInt8.toNat h2
  rw [UInt8.toNat_ofNat'] at h3
  simp at h3; omega
theorem xor_u8d (u : UInt8) {d : Nat} (h1 : d < 256) : bits .xor .u8 (u.toNat : Int) (d : Int) = ((u ^^^ UInt8.ofNat d).toNat : Int) := by
  have hu := u.toNat_lt
  have hx : u.toNat ^^^ d < 2 ^ 8 := Nat.xor_lt_two_pow (by omega) (by omega)
  have e8 : ∀ a : Nat, a < 256 → (BitVec.ofInt 8 (a : Int)).toNat = a := fun a ha => by
    rw [BitVec.ofInt_natCast, BitVec.toNat_ofNat]; exact Nat.mod_eq_of_lt (by omega)
  show IntKind.u8.wrap ((BitVec.ofInt 8 (u.toNat : Int) ^^^ BitVec.ofInt 8 (d : Int)).toNat : Int) = _
  rw [BitVec.toNat_xor, e8 _ (by omega), e8 d h1, UInt8.toNat_xor, UInt8.toNat_ofNat', Nat.mod_eq_of_lt h1]
  rw [IntKind.wrap_u8]
  omega
end Go.Proofs.Ytmnogefpphonlaa
