/-
  Two transactions compared by Go's own words.
-/
import Derived.Test.YtihpmaifcebpiaaBat
import Derived.Test.YtihpmaifcebpiaaStr0
import Derived.Laws.StructEq
namespace Go.Proofs.Ytihpmaifcebpiaa
open Go.RowKit
theorem toList_iff {a b : ByteArray} : a.toList = b.toList ↔ a = b := ⟨toList_inj', fun h => by rw [h]⟩
theorem tx_fields : Try.prog.underlying 67 = some (.struct (Try.prog.fieldsOf 67)) := by kernel_rfl
theorem tx_guard : Try.prog.eqGuardType Try.prog.depth 67 = false := by kernel_rfl
theorem tx_held : Try.prog.stoodInHeld 67 = false := by kernel_rfl
theorem run_eq_tx (s1 q1 s2 q2 : Int) (k1 v1 k2 v2 : ByteArray) (w : World) : (Op.equalIn 10000 67 (.agg #[.int .i64 s1, .int .i64 q1, .string k1, .string v1]) (.agg #[.int .i64 s2, .int .i64 q2, .string k2, .string v2])).run Try.prog w =
    .ok (decide ((⟨s1, q1, k1, v1⟩ : TxD) = ⟨s2, q2, k2, v2⟩)) w := by
  rw [run_equalIn_agg w 9999 67 _ _ tx_fields tx_held]
  simp [go_sem, Try.underlying67]
  simp only [toList_iff]
  by_cases h1 : s1 = s2 <;> by_cases h2 : q1 = q2 <;> by_cases h3 : k1 = k2 <;> by_cases h4 : v1 = v2 <;> simp [h1, h2, h3, h4]
theorem run_neq_tx (s1 q1 s2 q2 : Int) (k1 v1 k2 v2 : ByteArray) (w : World) {r : Bool} (hr : decide ((⟨s1, q1, k1, v1⟩ : TxD) = ⟨s2, q2, k2, v2⟩) = r) :
    (binOp .neq 67 (.agg #[.int .i64 s1, .int .i64 q1, .string k1, .string v1]) (.agg #[.int .i64 s2, .int .i64 q2, .string k2, .string v2])).run Try.prog w = .ok (.bool (!r)) w := by
  rw [run_neq_struct, run_eq_tx, hr]; rfl
theorem run_guard_tx (op : BinOp) (x y : Operand) (xs ys : Array Value) (w : World) : (eqGuard op 67 x y (.agg xs) (.agg ys)).run Try.prog w = .ok () w := run_eqGuard_agg w op _ x y xs ys tx_guard
end Go.Proofs.Ytihpmaifcebpiaa
