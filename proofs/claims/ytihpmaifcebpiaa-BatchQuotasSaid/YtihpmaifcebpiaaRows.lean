/-
  No cell of these rows narrows 'for every input' (looked for: loops, veiled, ifaces, maps, wideKeys, modest, calm, conditions, laid).
  DERIVED. THE GIVEN ROWS OF THIS SEAT. 12 by the template 'for every input the law returns true; each argument reads behind the call as it read before'; 0 by the template 'total and deterministic' (their statements: YtihpmaifcebpiaaTotals.lean).
  GIVEN WITH THE SEED: the statements are not yours to turn. If you find one false, say at which input.
  Laid BY PROGRAM, IN A SANDBOX (cutbox-rows.mjs): the forced cells as the released guide's own fill.sh prints them over the translation 06f382ff6c19428f… (all of the seat's roots in one cut). By AI agents, Wed Nov 11 2026. No macro, syntax, notation, axiom, sorry.
-/
import Derived.Test.YtihpmaifcebpiaaChecked
import GoSem.Claim
import GoSem.ClaimJoined
import GoSem.ClaimMapViews
import Derived.JoinedTies
import Derived.KernelRfl
namespace Go.Proofs.Ytihpmaifcebpiaa
/- THE CELL 'sum', in the pinned program and in every row, IS THE sha256 OF THE DUMP (.gsa) THAT YtihpmaifcebpiaaProg.lean LOADS. Nothing in Lean hashes anything: it is a label: what it is worth is what the hold of that sum in a sandbox is worth. -/
noncomputable def Try.pinned : Pinned := { name := "ytihpmaifcebpiaa", sum := "06f382ff6c19428f1c7750abc5b46f41650af11a84d98d60ca40927e1fe42e14", checked := Try.checked }
namespace Rows
def none {H : Type} : Left H := { results := [], args := [] }

/-- 'droverlaw4.BatchBytes': WHATEVER THE INPUT: true; the input reads as it did. -/
def batchBytesSpec : ChangeSpec := { name := "batchBytes", fn := fun _ => fun
  | [d] => { results := [.lit (.bool true)], args := [d] }
  | _ => none }
def batchBytesRow : OpenClaim := { program := "ytihpmaifcebpiaa", sum := "06f382ff6c19428f1c7750abc5b46f41650af11a84d98d60ca40927e1fe42e14", func := "drover/droverlaw4.BatchBytes", spec := "batchBytes", unfollowed := true, recurses := true, apart := false }
def BatchBytesSaid : Prop := batchBytesRow.holds Try.pinned (OpenSpec.ofChange batchBytesSpec)

/-- ITS FALSE NEIGHBOUR: 'it returns false'. Refute it at one input. -/
def batchBytesWrong : ChangeSpec := { name := "batchBytes", fn := fun _ => fun
  | [d] => { results := [.lit (.bool false)], args := [d] }
  | _ => none }
def BatchBytesWrongFalsely : Prop := batchBytesRow.holds Try.pinned (OpenSpec.ofChange batchBytesWrong)

/-- 'droverlaw4.BatchParses': WHATEVER THE INPUT: true; the input reads as it did. -/
def batchParsesSpec : ChangeSpec := { name := "batchParses", fn := fun _ => fun
  | [d] => { results := [.lit (.bool true)], args := [d] }
  | _ => none }
def batchParsesRow : OpenClaim := { program := "ytihpmaifcebpiaa", sum := "06f382ff6c19428f1c7750abc5b46f41650af11a84d98d60ca40927e1fe42e14", func := "drover/droverlaw4.BatchParses", spec := "batchParses", unfollowed := true, recurses := true, apart := false }
def BatchParsesSaid : Prop := batchParsesRow.holds Try.pinned (OpenSpec.ofChange batchParsesSpec)

/-- ITS FALSE NEIGHBOUR: 'it returns false'. Refute it at one input. -/
def batchParsesWrong : ChangeSpec := { name := "batchParses", fn := fun _ => fun
  | [d] => { results := [.lit (.bool false)], args := [d] }
  | _ => none }
def BatchParsesWrongFalsely : Prop := batchParsesRow.holds Try.pinned (OpenSpec.ofChange batchParsesWrong)

/-- 'droverlaw4.BatchBack': WHATEVER THE INPUT: true; the input reads as it did. -/
def batchBackSpec : ChangeSpec := { name := "batchBack", fn := fun _ => fun
  | [d] => { results := [.lit (.bool true)], args := [d] }
  | _ => none }
def batchBackRow : OpenClaim := { program := "ytihpmaifcebpiaa", sum := "06f382ff6c19428f1c7750abc5b46f41650af11a84d98d60ca40927e1fe42e14", func := "drover/droverlaw4.BatchBack", spec := "batchBack", unfollowed := true, recurses := true, apart := false }
def BatchBackSaid : Prop := batchBackRow.holds Try.pinned (OpenSpec.ofChange batchBackSpec)

/-- ITS FALSE NEIGHBOUR: 'it returns false'. Refute it at one input. -/
def batchBackWrong : ChangeSpec := { name := "batchBack", fn := fun _ => fun
  | [d] => { results := [.lit (.bool false)], args := [d] }
  | _ => none }
def BatchBackWrongFalsely : Prop := batchBackRow.holds Try.pinned (OpenSpec.ofChange batchBackWrong)

/-- 'droverlaw4.BatchTurned': WHATEVER THE INPUT: true; the input reads as it did. -/
def batchTurnedSpec : ChangeSpec := { name := "batchTurned", fn := fun _ => fun
  | [d] => { results := [.lit (.bool true)], args := [d] }
  | _ => none }
def batchTurnedRow : OpenClaim := { program := "ytihpmaifcebpiaa", sum := "06f382ff6c19428f1c7750abc5b46f41650af11a84d98d60ca40927e1fe42e14", func := "drover/droverlaw4.BatchTurned", spec := "batchTurned", unfollowed := true, recurses := true, apart := false }
def BatchTurnedSaid : Prop := batchTurnedRow.holds Try.pinned (OpenSpec.ofChange batchTurnedSpec)

/-- ITS FALSE NEIGHBOUR: 'it returns false'. Refute it at one input. -/
def batchTurnedWrong : ChangeSpec := { name := "batchTurned", fn := fun _ => fun
  | [d] => { results := [.lit (.bool false)], args := [d] }
  | _ => none }
def BatchTurnedWrongFalsely : Prop := batchTurnedRow.holds Try.pinned (OpenSpec.ofChange batchTurnedWrong)

/-- 'droverlaw6.HeaderBytes': WHATEVER THE INPUT: true; the input reads as it did. -/
def headerBytesSpec : ChangeSpec := { name := "headerBytes", fn := fun _ => fun
  | [d] => { results := [.lit (.bool true)], args := [d] }
  | _ => none }
def headerBytesRow : OpenClaim := { program := "ytihpmaifcebpiaa", sum := "06f382ff6c19428f1c7750abc5b46f41650af11a84d98d60ca40927e1fe42e14", func := "drover/droverlaw6.HeaderBytes", spec := "headerBytes", unfollowed := true, recurses := true, apart := false }
def HeaderBytesSaid : Prop := headerBytesRow.holds Try.pinned (OpenSpec.ofChange headerBytesSpec)

/-- ITS FALSE NEIGHBOUR: 'it returns false'. Refute it at one input. -/
def headerBytesWrong : ChangeSpec := { name := "headerBytes", fn := fun _ => fun
  | [d] => { results := [.lit (.bool false)], args := [d] }
  | _ => none }
def HeaderBytesWrongFalsely : Prop := headerBytesRow.holds Try.pinned (OpenSpec.ofChange headerBytesWrong)

/-- 'droverlaw6.HeaderParses': WHATEVER THE INPUT: true; the input reads as it did. -/
def headerParsesSpec : ChangeSpec := { name := "headerParses", fn := fun _ => fun
  | [d] => { results := [.lit (.bool true)], args := [d] }
  | _ => none }
def headerParsesRow : OpenClaim := { program := "ytihpmaifcebpiaa", sum := "06f382ff6c19428f1c7750abc5b46f41650af11a84d98d60ca40927e1fe42e14", func := "drover/droverlaw6.HeaderParses", spec := "headerParses", unfollowed := true, recurses := true, apart := false }
def HeaderParsesSaid : Prop := headerParsesRow.holds Try.pinned (OpenSpec.ofChange headerParsesSpec)

/-- ITS FALSE NEIGHBOUR: 'it returns false'. Refute it at one input. -/
def headerParsesWrong : ChangeSpec := { name := "headerParses", fn := fun _ => fun
  | [d] => { results := [.lit (.bool false)], args := [d] }
  | _ => none }
def HeaderParsesWrongFalsely : Prop := headerParsesRow.holds Try.pinned (OpenSpec.ofChange headerParsesWrong)

/-- 'droverlaw6.HeaderBack': WHATEVER THE INPUT: true; the input reads as it did. -/
def headerBackSpec : ChangeSpec := { name := "headerBack", fn := fun _ => fun
  | [d] => { results := [.lit (.bool true)], args := [d] }
  | _ => none }
def headerBackRow : OpenClaim := { program := "ytihpmaifcebpiaa", sum := "06f382ff6c19428f1c7750abc5b46f41650af11a84d98d60ca40927e1fe42e14", func := "drover/droverlaw6.HeaderBack", spec := "headerBack", unfollowed := true, recurses := true, apart := false }
def HeaderBackSaid : Prop := headerBackRow.holds Try.pinned (OpenSpec.ofChange headerBackSpec)

/-- ITS FALSE NEIGHBOUR: 'it returns false'. Refute it at one input. -/
def headerBackWrong : ChangeSpec := { name := "headerBack", fn := fun _ => fun
  | [d] => { results := [.lit (.bool false)], args := [d] }
  | _ => none }
def HeaderBackWrongFalsely : Prop := headerBackRow.holds Try.pinned (OpenSpec.ofChange headerBackWrong)

/-- 'droverlaw6.HeaderTurned': WHATEVER THE INPUT: true; the input reads as it did. -/
def headerTurnedSpec : ChangeSpec := { name := "headerTurned", fn := fun _ => fun
  | [d] => { results := [.lit (.bool true)], args := [d] }
  | _ => none }
def headerTurnedRow : OpenClaim := { program := "ytihpmaifcebpiaa", sum := "06f382ff6c19428f1c7750abc5b46f41650af11a84d98d60ca40927e1fe42e14", func := "drover/droverlaw6.HeaderTurned", spec := "headerTurned", unfollowed := true, recurses := true, apart := false }
def HeaderTurnedSaid : Prop := headerTurnedRow.holds Try.pinned (OpenSpec.ofChange headerTurnedSpec)

/-- ITS FALSE NEIGHBOUR: 'it returns false'. Refute it at one input. -/
def headerTurnedWrong : ChangeSpec := { name := "headerTurned", fn := fun _ => fun
  | [d] => { results := [.lit (.bool false)], args := [d] }
  | _ => none }
def HeaderTurnedWrongFalsely : Prop := headerTurnedRow.holds Try.pinned (OpenSpec.ofChange headerTurnedWrong)

/-- 'droverlaw4.BatchChecks': WHATEVER THE INPUT: true; the input reads as it did. -/
def batchChecksSpec : ChangeSpec := { name := "batchChecks", fn := fun _ => fun
  | [d] => { results := [.lit (.bool true)], args := [d] }
  | _ => none }
def batchChecksRow : OpenClaim := { program := "ytihpmaifcebpiaa", sum := "06f382ff6c19428f1c7750abc5b46f41650af11a84d98d60ca40927e1fe42e14", func := "drover/droverlaw4.BatchChecks", spec := "batchChecks", unfollowed := true, recurses := true, apart := false }
def BatchChecksSaid : Prop := batchChecksRow.holds Try.pinned (OpenSpec.ofChange batchChecksSpec)

/-- ITS FALSE NEIGHBOUR: 'it returns false'. Refute it at one input. -/
def batchChecksWrong : ChangeSpec := { name := "batchChecks", fn := fun _ => fun
  | [d] => { results := [.lit (.bool false)], args := [d] }
  | _ => none }
def BatchChecksWrongFalsely : Prop := batchChecksRow.holds Try.pinned (OpenSpec.ofChange batchChecksWrong)

/-- 'droverlaw4.BatchQuotas': WHATEVER THE INPUT: true; the input reads as it did. -/
def batchQuotasSpec : ChangeSpec := { name := "batchQuotas", fn := fun _ => fun
  | [d] => { results := [.lit (.bool true)], args := [d] }
  | _ => none }
def batchQuotasRow : OpenClaim := { program := "ytihpmaifcebpiaa", sum := "06f382ff6c19428f1c7750abc5b46f41650af11a84d98d60ca40927e1fe42e14", func := "drover/droverlaw4.BatchQuotas", spec := "batchQuotas", unfollowed := true, recurses := true, apart := false }
def BatchQuotasSaid : Prop := batchQuotasRow.holds Try.pinned (OpenSpec.ofChange batchQuotasSpec)

/-- ITS FALSE NEIGHBOUR: 'it returns false'. Refute it at one input. -/
def batchQuotasWrong : ChangeSpec := { name := "batchQuotas", fn := fun _ => fun
  | [d] => { results := [.lit (.bool false)], args := [d] }
  | _ => none }
def BatchQuotasWrongFalsely : Prop := batchQuotasRow.holds Try.pinned (OpenSpec.ofChange batchQuotasWrong)

/-- 'droverlaw6.HeaderChecks': WHATEVER THE INPUT: true; the input reads as it did. -/
def headerChecksSpec : ChangeSpec := { name := "headerChecks", fn := fun _ => fun
  | [d] => { results := [.lit (.bool true)], args := [d] }
  | _ => none }
def headerChecksRow : OpenClaim := { program := "ytihpmaifcebpiaa", sum := "06f382ff6c19428f1c7750abc5b46f41650af11a84d98d60ca40927e1fe42e14", func := "drover/droverlaw6.HeaderChecks", spec := "headerChecks", unfollowed := true, recurses := true, apart := false }
def HeaderChecksSaid : Prop := headerChecksRow.holds Try.pinned (OpenSpec.ofChange headerChecksSpec)

/-- ITS FALSE NEIGHBOUR: 'it returns false'. Refute it at one input. -/
def headerChecksWrong : ChangeSpec := { name := "headerChecks", fn := fun _ => fun
  | [d] => { results := [.lit (.bool false)], args := [d] }
  | _ => none }
def HeaderChecksWrongFalsely : Prop := headerChecksRow.holds Try.pinned (OpenSpec.ofChange headerChecksWrong)

/-- 'droverlaw6.HeaderQuorums': WHATEVER THE INPUT: true; the input reads as it did. -/
def headerQuorumsSpec : ChangeSpec := { name := "headerQuorums", fn := fun _ => fun
  | [d] => { results := [.lit (.bool true)], args := [d] }
  | _ => none }
def headerQuorumsRow : OpenClaim := { program := "ytihpmaifcebpiaa", sum := "06f382ff6c19428f1c7750abc5b46f41650af11a84d98d60ca40927e1fe42e14", func := "drover/droverlaw6.HeaderQuorums", spec := "headerQuorums", unfollowed := true, recurses := true, apart := false }
def HeaderQuorumsSaid : Prop := headerQuorumsRow.holds Try.pinned (OpenSpec.ofChange headerQuorumsSpec)

/-- ITS FALSE NEIGHBOUR: 'it returns false'. Refute it at one input. -/
def headerQuorumsWrong : ChangeSpec := { name := "headerQuorums", fn := fun _ => fun
  | [d] => { results := [.lit (.bool false)], args := [d] }
  | _ => none }
def HeaderQuorumsWrongFalsely : Prop := headerQuorumsRow.holds Try.pinned (OpenSpec.ofChange headerQuorumsWrong)

/- THE SECOND FORM. 'bulk': how many values and letters a reading holds, each counted each time it is reached (what is shared counts as often as it is met; a slice's spare places count too). A statement '..UptoSaid' is the law's where the arguments, and the package variables that the reading takes, are together of bulk at most 1048576: NARROWER than '..Said'. Prove '..Said' where nothing that the law and all that it calls make is longer than what came in: it says more and counts as full. Else prove '..UptoSaid'. A law counts once. -/
mutual
def uptoBulk {H : Type} : DataW H → Nat
  | .lit (.string bytes) => bytes.length + 1
  | .lit _ => 1
  | .nil => 1
  | .ptr d => uptoBulk d + 1
  | .slice elems spare => uptoBulkAll elems + uptoBulkAll spare + 1
  | .agg parts => uptoBulkAll parts + 1
  | .iface _ d => uptoBulk d + 1
  | .map entries => uptoBulkEntries entries + 1
  | .held _ => 1
def uptoBulkAll {H : Type} : List (DataW H) → Nat
  | [] => 0
  | d :: r => uptoBulk d + uptoBulkAll r
def uptoBulkEntries {H : Type} : List (Lit × DataW H) → Nat
  | [] => 0
  | x :: r => uptoBulkEntry x + uptoBulkEntries r
def uptoBulkEntry {H : Type} : Lit × DataW H → Nat
  | (.string bytes, d) => bytes.length + uptoBulk d + 1
  | (_, d) => uptoBulk d + 1
 end
def uptoSmall : (H : Type) → List (DataW H) → Bool := fun _ ds => decide (uptoBulkAll ds ≤ 1048576)
def OpenSpec.upto (s : _root_.Go.ChangeSpec) : _root_.Go.OpenSpec := { _root_.Go.OpenSpec.ofChange s with cond := some uptoSmall }

/-- 'droverlaw4.BatchBytes', WHERE WHAT IT READS IS OF BULK AT MOST 1048576: true; the input reads as it did. -/
def batchBytesUptoRow : OpenClaim := { program := "ytihpmaifcebpiaa", sum := "06f382ff6c19428f1c7750abc5b46f41650af11a84d98d60ca40927e1fe42e14", func := "drover/droverlaw4.BatchBytes", spec := "batchBytes", unfollowed := true, recurses := true, apart := false, narrowed := true }
def BatchBytesUptoSaid : Prop := batchBytesUptoRow.holds Try.pinned (OpenSpec.upto batchBytesSpec)

/-- 'droverlaw4.BatchParses', WHERE WHAT IT READS IS OF BULK AT MOST 1048576: true; the input reads as it did. -/
def batchParsesUptoRow : OpenClaim := { program := "ytihpmaifcebpiaa", sum := "06f382ff6c19428f1c7750abc5b46f41650af11a84d98d60ca40927e1fe42e14", func := "drover/droverlaw4.BatchParses", spec := "batchParses", unfollowed := true, recurses := true, apart := false, narrowed := true }
def BatchParsesUptoSaid : Prop := batchParsesUptoRow.holds Try.pinned (OpenSpec.upto batchParsesSpec)

/-- 'droverlaw4.BatchBack', WHERE WHAT IT READS IS OF BULK AT MOST 1048576: true; the input reads as it did. -/
def batchBackUptoRow : OpenClaim := { program := "ytihpmaifcebpiaa", sum := "06f382ff6c19428f1c7750abc5b46f41650af11a84d98d60ca40927e1fe42e14", func := "drover/droverlaw4.BatchBack", spec := "batchBack", unfollowed := true, recurses := true, apart := false, narrowed := true }
def BatchBackUptoSaid : Prop := batchBackUptoRow.holds Try.pinned (OpenSpec.upto batchBackSpec)

/-- 'droverlaw4.BatchTurned', WHERE WHAT IT READS IS OF BULK AT MOST 1048576: true; the input reads as it did. -/
def batchTurnedUptoRow : OpenClaim := { program := "ytihpmaifcebpiaa", sum := "06f382ff6c19428f1c7750abc5b46f41650af11a84d98d60ca40927e1fe42e14", func := "drover/droverlaw4.BatchTurned", spec := "batchTurned", unfollowed := true, recurses := true, apart := false, narrowed := true }
def BatchTurnedUptoSaid : Prop := batchTurnedUptoRow.holds Try.pinned (OpenSpec.upto batchTurnedSpec)

/-- 'droverlaw6.HeaderBytes', WHERE WHAT IT READS IS OF BULK AT MOST 1048576: true; the input reads as it did. -/
def headerBytesUptoRow : OpenClaim := { program := "ytihpmaifcebpiaa", sum := "06f382ff6c19428f1c7750abc5b46f41650af11a84d98d60ca40927e1fe42e14", func := "drover/droverlaw6.HeaderBytes", spec := "headerBytes", unfollowed := true, recurses := true, apart := false, narrowed := true }
def HeaderBytesUptoSaid : Prop := headerBytesUptoRow.holds Try.pinned (OpenSpec.upto headerBytesSpec)

/-- 'droverlaw6.HeaderParses', WHERE WHAT IT READS IS OF BULK AT MOST 1048576: true; the input reads as it did. -/
def headerParsesUptoRow : OpenClaim := { program := "ytihpmaifcebpiaa", sum := "06f382ff6c19428f1c7750abc5b46f41650af11a84d98d60ca40927e1fe42e14", func := "drover/droverlaw6.HeaderParses", spec := "headerParses", unfollowed := true, recurses := true, apart := false, narrowed := true }
def HeaderParsesUptoSaid : Prop := headerParsesUptoRow.holds Try.pinned (OpenSpec.upto headerParsesSpec)

/-- 'droverlaw6.HeaderBack', WHERE WHAT IT READS IS OF BULK AT MOST 1048576: true; the input reads as it did. -/
def headerBackUptoRow : OpenClaim := { program := "ytihpmaifcebpiaa", sum := "06f382ff6c19428f1c7750abc5b46f41650af11a84d98d60ca40927e1fe42e14", func := "drover/droverlaw6.HeaderBack", spec := "headerBack", unfollowed := true, recurses := true, apart := false, narrowed := true }
def HeaderBackUptoSaid : Prop := headerBackUptoRow.holds Try.pinned (OpenSpec.upto headerBackSpec)

/-- 'droverlaw6.HeaderTurned', WHERE WHAT IT READS IS OF BULK AT MOST 1048576: true; the input reads as it did. -/
def headerTurnedUptoRow : OpenClaim := { program := "ytihpmaifcebpiaa", sum := "06f382ff6c19428f1c7750abc5b46f41650af11a84d98d60ca40927e1fe42e14", func := "drover/droverlaw6.HeaderTurned", spec := "headerTurned", unfollowed := true, recurses := true, apart := false, narrowed := true }
def HeaderTurnedUptoSaid : Prop := headerTurnedUptoRow.holds Try.pinned (OpenSpec.upto headerTurnedSpec)

/-- 'droverlaw4.BatchChecks', WHERE WHAT IT READS IS OF BULK AT MOST 1048576: true; the input reads as it did. -/
def batchChecksUptoRow : OpenClaim := { program := "ytihpmaifcebpiaa", sum := "06f382ff6c19428f1c7750abc5b46f41650af11a84d98d60ca40927e1fe42e14", func := "drover/droverlaw4.BatchChecks", spec := "batchChecks", unfollowed := true, recurses := true, apart := false, narrowed := true }
def BatchChecksUptoSaid : Prop := batchChecksUptoRow.holds Try.pinned (OpenSpec.upto batchChecksSpec)

/-- 'droverlaw4.BatchQuotas', WHERE WHAT IT READS IS OF BULK AT MOST 1048576: true; the input reads as it did. -/
def batchQuotasUptoRow : OpenClaim := { program := "ytihpmaifcebpiaa", sum := "06f382ff6c19428f1c7750abc5b46f41650af11a84d98d60ca40927e1fe42e14", func := "drover/droverlaw4.BatchQuotas", spec := "batchQuotas", unfollowed := true, recurses := true, apart := false, narrowed := true }
def BatchQuotasUptoSaid : Prop := batchQuotasUptoRow.holds Try.pinned (OpenSpec.upto batchQuotasSpec)

/-- 'droverlaw6.HeaderChecks', WHERE WHAT IT READS IS OF BULK AT MOST 1048576: true; the input reads as it did. -/
def headerChecksUptoRow : OpenClaim := { program := "ytihpmaifcebpiaa", sum := "06f382ff6c19428f1c7750abc5b46f41650af11a84d98d60ca40927e1fe42e14", func := "drover/droverlaw6.HeaderChecks", spec := "headerChecks", unfollowed := true, recurses := true, apart := false, narrowed := true }
def HeaderChecksUptoSaid : Prop := headerChecksUptoRow.holds Try.pinned (OpenSpec.upto headerChecksSpec)

/-- 'droverlaw6.HeaderQuorums', WHERE WHAT IT READS IS OF BULK AT MOST 1048576: true; the input reads as it did. -/
def headerQuorumsUptoRow : OpenClaim := { program := "ytihpmaifcebpiaa", sum := "06f382ff6c19428f1c7750abc5b46f41650af11a84d98d60ca40927e1fe42e14", func := "drover/droverlaw6.HeaderQuorums", spec := "headerQuorums", unfollowed := true, recurses := true, apart := false, narrowed := true }
def HeaderQuorumsUptoSaid : Prop := headerQuorumsUptoRow.holds Try.pinned (OpenSpec.upto headerQuorumsSpec)

end Rows
end Go.Proofs.Ytihpmaifcebpiaa
