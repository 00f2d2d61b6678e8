/-
  Plain facts: what no batch's bytes are; unlike batches have unlike bytes.
-/
import Derived.Test.YtihpmaifcebpiaaBat
namespace Go.Proofs.Ytihpmaifcebpiaa
open Go.RowKit

section
variable {a n : Int} {l : List TxD}
theorem parseB_behind (h : mayB a n l = true) : parseB (batchB a n l ++ [0]) = none := by
  obtain ⟨h1, h2⟩ := batch_size h
  unfold parseB
  rw [show getT (batchB a n l ++ [0]) = none from getL_behind codecT (fun s hs => by have := h1 s hs; omega) (by rw [putL_T]; show (batchB a n l).length ≤ _; omega) (by simp)]
theorem parseB_begin (h : mayB a n l = true) {k : Nat} (hk : k < (batchB a n l).length) : parseB ((batchB a n l).take k) = none := by
  obtain ⟨h1, h2⟩ := batch_size h
  unfold parseB
  rw [show getT ((batchB a n l).take k) = none from getL_begin codecT (fun s hs => by have := h1 s hs; omega) (by rw [putL_T]; show (batchB a n l).length ≤ _; omega) (by rw [putL_T]; exact hk)]
theorem batchB_inj {a' n' : Int} {l' : List TxD} (h : mayB a n l = true) (h' : mayB a' n' l' = true) : (batchB a n l == batchB a' n' l') = decide (a = a' ∧ n = n' ∧ l = l') := by
  rw [Bool.eq_iff_iff, beq_iff_eq, decide_eq_true_eq]
  constructor
  · intro e
    have h1 := parseB_there h
    rw [e, parseB_there h'] at h1
    simp only [Option.some.injEq, Prod.mk.injEq] at h1
    exact ⟨h1.1.symm, h1.2.1.symm, h1.2.2.symm⟩
  · rintro ⟨rfl, rfl, rfl⟩; rfl
end
end Go.Proofs.Ytihpmaifcebpiaa
