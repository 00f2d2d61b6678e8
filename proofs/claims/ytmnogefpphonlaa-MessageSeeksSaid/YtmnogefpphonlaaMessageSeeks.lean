/-
  The walk of MessageSeeks: whatever the list of records, the call answers true and changes nothing that was there.
-/
import Derived.Test.YtmnogefpphonlaaMessagekind
set_option linter.unusedVariables false
set_option linter.unusedSimpArgs false
namespace Go.Proofs.Ytmnogefpphonlaa
open Go.RowKit
set_option maxRecDepth 100000 in
set_option maxHeartbeats 400000 in
theorem walk_MessageSeeks {v : Value} {w : World} (ho : ∃ A n c, v = .slice A n c ∧ Asks7 w A n) :
    Calls Try.prog 14 #[v] w fun r w' => r = .returned (.bool true) ∧ Below w.heap.size w w' := by
  have hk := hide (walk_kind (v := v) (w := w) 8 ho)
  clear ho
  go_enter Try.func14, Try.ntmps14
  go_wp2_with fail
  refine hk.out.mono ?_
  rintro e w1 ⟨rfl, hb⟩
  go_wp2_with fail
  go_ret
  exact ⟨rfl, hb⟩
end Go.Proofs.Ytmnogefpphonlaa
