/-
  No cell of these rows narrows 'for every input' (looked for: loops, veiled, ifaces, maps, wideKeys, modest, calm, conditions, laid).
  DERIVED. THE GIVEN ROWS OF THIS SEAT. 12 by the template 'for every input the law returns true; each argument reads behind the call as it read before'; 0 by the template 'total and deterministic' (their statements: YtmnogefpphonlaaTotals.lean).
  GIVEN WITH THE SEED: the statements are not yours to turn. If you find one false, say at which input.
  Laid BY PROGRAM, IN A SANDBOX (cutbox-rows.mjs): the forced cells as the released guide's own fill.sh prints them over the translation 67b5d324850866f2… (all of the seat's roots in one cut). By AI agents, Wed Nov 11 2026. No macro, syntax, notation, axiom, sorry.
-/
import Derived.Test.YtmnogefpphonlaaChecked
import GoSem.Claim
import GoSem.ClaimJoined
import GoSem.ClaimMapViews
import Derived.JoinedTies
import Derived.KernelRfl
namespace Go.Proofs.Ytmnogefpphonlaa
/- THE CELL 'sum', in the pinned program and in every row, IS THE sha256 OF THE DUMP (.gsa) THAT YtmnogefpphonlaaProg.lean LOADS. Nothing in Lean hashes anything: it is a label: what it is worth is what the hold of that sum in a sandbox is worth. -/
noncomputable def Try.pinned : Pinned := { name := "ytmnogefpphonlaa", sum := "67b5d324850866f2fa06276281c9a3c903e8ece3c39fcdadd6a13d83114bac3e", checked := Try.checked }
namespace Rows
def none {H : Type} : Left H := { results := [], args := [] }

/-- 'droverlaw7.MessageAny': WHATEVER THE INPUT: true; the input reads as it did. -/
def messageAnySpec : ChangeSpec := { name := "messageAny", fn := fun _ => fun
  | [d] => { results := [.lit (.bool true)], args := [d] }
  | _ => none }
def messageAnyRow : OpenClaim := { program := "ytmnogefpphonlaa", sum := "67b5d324850866f2fa06276281c9a3c903e8ece3c39fcdadd6a13d83114bac3e", func := "drover/droverlaw7.MessageAny", spec := "messageAny", unfollowed := true, recurses := true, apart := false }
def MessageAnySaid : Prop := messageAnyRow.holds Try.pinned (OpenSpec.ofChange messageAnySpec)

/-- ITS FALSE NEIGHBOUR: 'it returns false'. Refute it at one input. -/
def messageAnyWrong : ChangeSpec := { name := "messageAny", fn := fun _ => fun
  | [d] => { results := [.lit (.bool false)], args := [d] }
  | _ => none }
def MessageAnyWrongFalsely : Prop := messageAnyRow.holds Try.pinned (OpenSpec.ofChange messageAnyWrong)

/-- 'droverlaw7.MessageTurned': WHATEVER THE INPUT: true; the input reads as it did. -/
def messageTurnedSpec : ChangeSpec := { name := "messageTurned", fn := fun _ => fun
  | [d] => { results := [.lit (.bool true)], args := [d] }
  | _ => none }
def messageTurnedRow : OpenClaim := { program := "ytmnogefpphonlaa", sum := "67b5d324850866f2fa06276281c9a3c903e8ece3c39fcdadd6a13d83114bac3e", func := "drover/droverlaw7.MessageTurned", spec := "messageTurned", unfollowed := true, recurses := true, apart := false }
def MessageTurnedSaid : Prop := messageTurnedRow.holds Try.pinned (OpenSpec.ofChange messageTurnedSpec)

/-- ITS FALSE NEIGHBOUR: 'it returns false'. Refute it at one input. -/
def messageTurnedWrong : ChangeSpec := { name := "messageTurned", fn := fun _ => fun
  | [d] => { results := [.lit (.bool false)], args := [d] }
  | _ => none }
def MessageTurnedWrongFalsely : Prop := messageTurnedRow.holds Try.pinned (OpenSpec.ofChange messageTurnedWrong)

/-- 'droverlaw7.MessageChecks': WHATEVER THE INPUT: true; the input reads as it did. -/
def messageChecksSpec : ChangeSpec := { name := "messageChecks", fn := fun _ => fun
  | [d] => { results := [.lit (.bool true)], args := [d] }
  | _ => none }
def messageChecksRow : OpenClaim := { program := "ytmnogefpphonlaa", sum := "67b5d324850866f2fa06276281c9a3c903e8ece3c39fcdadd6a13d83114bac3e", func := "drover/droverlaw7.MessageChecks", spec := "messageChecks", unfollowed := true, recurses := true, apart := false }
def MessageChecksSaid : Prop := messageChecksRow.holds Try.pinned (OpenSpec.ofChange messageChecksSpec)

/-- ITS FALSE NEIGHBOUR: 'it returns false'. Refute it at one input. -/
def messageChecksWrong : ChangeSpec := { name := "messageChecks", fn := fun _ => fun
  | [d] => { results := [.lit (.bool false)], args := [d] }
  | _ => none }
def MessageChecksWrongFalsely : Prop := messageChecksRow.holds Try.pinned (OpenSpec.ofChange messageChecksWrong)

/-- 'droverlaw7.MessageWider': WHATEVER THE INPUT: true; the input reads as it did. -/
def messageWiderSpec : ChangeSpec := { name := "messageWider", fn := fun _ => fun
  | [d] => { results := [.lit (.bool true)], args := [d] }
  | _ => none }
def messageWiderRow : OpenClaim := { program := "ytmnogefpphonlaa", sum := "67b5d324850866f2fa06276281c9a3c903e8ece3c39fcdadd6a13d83114bac3e", func := "drover/droverlaw7.MessageWider", spec := "messageWider", unfollowed := true, recurses := true, apart := false }
def MessageWiderSaid : Prop := messageWiderRow.holds Try.pinned (OpenSpec.ofChange messageWiderSpec)

/-- ITS FALSE NEIGHBOUR: 'it returns false'. Refute it at one input. -/
def messageWiderWrong : ChangeSpec := { name := "messageWider", fn := fun _ => fun
  | [d] => { results := [.lit (.bool false)], args := [d] }
  | _ => none }
def MessageWiderWrongFalsely : Prop := messageWiderRow.holds Try.pinned (OpenSpec.ofChange messageWiderWrong)

/-- 'droverlaw7.MessageBatches': WHATEVER THE INPUT: true; the input reads as it did. -/
def messageBatchesSpec : ChangeSpec := { name := "messageBatches", fn := fun _ => fun
  | [d] => { results := [.lit (.bool true)], args := [d] }
  | _ => none }
def messageBatchesRow : OpenClaim := { program := "ytmnogefpphonlaa", sum := "67b5d324850866f2fa06276281c9a3c903e8ece3c39fcdadd6a13d83114bac3e", func := "drover/droverlaw7.MessageBatches", spec := "messageBatches", unfollowed := true, recurses := true, apart := false }
def MessageBatchesSaid : Prop := messageBatchesRow.holds Try.pinned (OpenSpec.ofChange messageBatchesSpec)

/-- ITS FALSE NEIGHBOUR: 'it returns false'. Refute it at one input. -/
def messageBatchesWrong : ChangeSpec := { name := "messageBatches", fn := fun _ => fun
  | [d] => { results := [.lit (.bool false)], args := [d] }
  | _ => none }
def MessageBatchesWrongFalsely : Prop := messageBatchesRow.holds Try.pinned (OpenSpec.ofChange messageBatchesWrong)

/-- 'droverlaw7.MessageGives': WHATEVER THE INPUT: true; the input reads as it did. -/
def messageGivesSpec : ChangeSpec := { name := "messageGives", fn := fun _ => fun
  | [d] => { results := [.lit (.bool true)], args := [d] }
  | _ => none }
def messageGivesRow : OpenClaim := { program := "ytmnogefpphonlaa", sum := "67b5d324850866f2fa06276281c9a3c903e8ece3c39fcdadd6a13d83114bac3e", func := "drover/droverlaw7.MessageGives", spec := "messageGives", unfollowed := true, recurses := true, apart := false }
def MessageGivesSaid : Prop := messageGivesRow.holds Try.pinned (OpenSpec.ofChange messageGivesSpec)

/-- ITS FALSE NEIGHBOUR: 'it returns false'. Refute it at one input. -/
def messageGivesWrong : ChangeSpec := { name := "messageGives", fn := fun _ => fun
  | [d] => { results := [.lit (.bool false)], args := [d] }
  | _ => none }
def MessageGivesWrongFalsely : Prop := messageGivesRow.holds Try.pinned (OpenSpec.ofChange messageGivesWrong)

/-- 'droverlaw7.MessageTells': WHATEVER THE INPUT: true; the input reads as it did. -/
def messageTellsSpec : ChangeSpec := { name := "messageTells", fn := fun _ => fun
  | [d] => { results := [.lit (.bool true)], args := [d] }
  | _ => none }
def messageTellsRow : OpenClaim := { program := "ytmnogefpphonlaa", sum := "67b5d324850866f2fa06276281c9a3c903e8ece3c39fcdadd6a13d83114bac3e", func := "drover/droverlaw7.MessageTells", spec := "messageTells", unfollowed := true, recurses := true, apart := false }
def MessageTellsSaid : Prop := messageTellsRow.holds Try.pinned (OpenSpec.ofChange messageTellsSpec)

/-- ITS FALSE NEIGHBOUR: 'it returns false'. Refute it at one input. -/
def messageTellsWrong : ChangeSpec := { name := "messageTells", fn := fun _ => fun
  | [d] => { results := [.lit (.bool false)], args := [d] }
  | _ => none }
def MessageTellsWrongFalsely : Prop := messageTellsRow.holds Try.pinned (OpenSpec.ofChange messageTellsWrong)

/-- 'droverlaw7.MessageVotes': WHATEVER THE INPUT: true; the input reads as it did. -/
def messageVotesSpec : ChangeSpec := { name := "messageVotes", fn := fun _ => fun
  | [d] => { results := [.lit (.bool true)], args := [d] }
  | _ => none }
def messageVotesRow : OpenClaim := { program := "ytmnogefpphonlaa", sum := "67b5d324850866f2fa06276281c9a3c903e8ece3c39fcdadd6a13d83114bac3e", func := "drover/droverlaw7.MessageVotes", spec := "messageVotes", unfollowed := true, recurses := true, apart := false }
def MessageVotesSaid : Prop := messageVotesRow.holds Try.pinned (OpenSpec.ofChange messageVotesSpec)

/-- ITS FALSE NEIGHBOUR: 'it returns false'. Refute it at one input. -/
def messageVotesWrong : ChangeSpec := { name := "messageVotes", fn := fun _ => fun
  | [d] => { results := [.lit (.bool false)], args := [d] }
  | _ => none }
def MessageVotesWrongFalsely : Prop := messageVotesRow.holds Try.pinned (OpenSpec.ofChange messageVotesWrong)

/-- 'droverlaw7.MessageHeaders': WHATEVER THE INPUT: true; the input reads as it did. -/
def messageHeadersSpec : ChangeSpec := { name := "messageHeaders", fn := fun _ => fun
  | [d] => { results := [.lit (.bool true)], args := [d] }
  | _ => none }
def messageHeadersRow : OpenClaim := { program := "ytmnogefpphonlaa", sum := "67b5d324850866f2fa06276281c9a3c903e8ece3c39fcdadd6a13d83114bac3e", func := "drover/droverlaw7.MessageHeaders", spec := "messageHeaders", unfollowed := true, recurses := true, apart := false }
def MessageHeadersSaid : Prop := messageHeadersRow.holds Try.pinned (OpenSpec.ofChange messageHeadersSpec)

/-- ITS FALSE NEIGHBOUR: 'it returns false'. Refute it at one input. -/
def messageHeadersWrong : ChangeSpec := { name := "messageHeaders", fn := fun _ => fun
  | [d] => { results := [.lit (.bool false)], args := [d] }
  | _ => none }
def MessageHeadersWrongFalsely : Prop := messageHeadersRow.holds Try.pinned (OpenSpec.ofChange messageHeadersWrong)

/-- 'droverlaw7.MessageCerts': WHATEVER THE INPUT: true; the input reads as it did. -/
def messageCertsSpec : ChangeSpec := { name := "messageCerts", fn := fun _ => fun
  | [d] => { results := [.lit (.bool true)], args := [d] }
  | _ => none }
def messageCertsRow : OpenClaim := { program := "ytmnogefpphonlaa", sum := "67b5d324850866f2fa06276281c9a3c903e8ece3c39fcdadd6a13d83114bac3e", func := "drover/droverlaw7.MessageCerts", spec := "messageCerts", unfollowed := true, recurses := true, apart := false }
def MessageCertsSaid : Prop := messageCertsRow.holds Try.pinned (OpenSpec.ofChange messageCertsSpec)

/-- ITS FALSE NEIGHBOUR: 'it returns false'. Refute it at one input. -/
def messageCertsWrong : ChangeSpec := { name := "messageCerts", fn := fun _ => fun
  | [d] => { results := [.lit (.bool false)], args := [d] }
  | _ => none }
def MessageCertsWrongFalsely : Prop := messageCertsRow.holds Try.pinned (OpenSpec.ofChange messageCertsWrong)

/-- 'droverlaw7.MessageWants': WHATEVER THE INPUT: true; the input reads as it did. -/
def messageWantsSpec : ChangeSpec := { name := "messageWants", fn := fun _ => fun
  | [d] => { results := [.lit (.bool true)], args := [d] }
  | _ => none }
def messageWantsRow : OpenClaim := { program := "ytmnogefpphonlaa", sum := "67b5d324850866f2fa06276281c9a3c903e8ece3c39fcdadd6a13d83114bac3e", func := "drover/droverlaw7.MessageWants", spec := "messageWants", unfollowed := true, recurses := true, apart := false }
def MessageWantsSaid : Prop := messageWantsRow.holds Try.pinned (OpenSpec.ofChange messageWantsSpec)

/-- ITS FALSE NEIGHBOUR: 'it returns false'. Refute it at one input. -/
def messageWantsWrong : ChangeSpec := { name := "messageWants", fn := fun _ => fun
  | [d] => { results := [.lit (.bool false)], args := [d] }
  | _ => none }
def MessageWantsWrongFalsely : Prop := messageWantsRow.holds Try.pinned (OpenSpec.ofChange messageWantsWrong)

/-- 'droverlaw7.MessageSeeks': WHATEVER THE INPUT: true; the input reads as it did. -/
def messageSeeksSpec : ChangeSpec := { name := "messageSeeks", fn := fun _ => fun
  | [d] => { results := [.lit (.bool true)], args := [d] }
  | _ => none }
def messageSeeksRow : OpenClaim := { program := "ytmnogefpphonlaa", sum := "67b5d324850866f2fa06276281c9a3c903e8ece3c39fcdadd6a13d83114bac3e", func := "drover/droverlaw7.MessageSeeks", spec := "messageSeeks", unfollowed := true, recurses := true, apart := false }
def MessageSeeksSaid : Prop := messageSeeksRow.holds Try.pinned (OpenSpec.ofChange messageSeeksSpec)

/-- ITS FALSE NEIGHBOUR: 'it returns false'. Refute it at one input. -/
def messageSeeksWrong : ChangeSpec := { name := "messageSeeks", fn := fun _ => fun
  | [d] => { results := [.lit (.bool false)], args := [d] }
  | _ => none }
def MessageSeeksWrongFalsely : Prop := messageSeeksRow.holds Try.pinned (OpenSpec.ofChange messageSeeksWrong)

/- THE SECOND FORM. 'bulk': how many values and letters a reading holds, each counted each time it is reached (what is shared counts as often as it is met; a slice's spare places count too). A statement '..UptoSaid' is the law's where the arguments, and the package variables that the reading takes, are together of bulk at most 1048576: NARROWER than '..Said'. Prove '..Said' where nothing that the law and all that it calls make is longer than what came in: it says more and counts as full. Else prove '..UptoSaid'. A law counts once. -/
mutual
def uptoBulk {H : Type} : DataW H → Nat
  | .lit (.string bytes) => bytes.length + 1
  | .lit _ => 1
  | .nil => 1
  | .ptr d => uptoBulk d + 1
  | .slice elems spare => uptoBulkAll elems + uptoBulkAll spare + 1
  | .agg parts => uptoBulkAll parts + 1
  | .iface _ d => uptoBulk d + 1
  | .map entries => uptoBulkEntries entries + 1
  | .held _ => 1
def uptoBulkAll {H : Type} : List (DataW H) → Nat
  | [] => 0
  | d :: r => uptoBulk d + uptoBulkAll r
def uptoBulkEntries {H : Type} : List (Lit × DataW H) → Nat
  | [] => 0
  | x :: r => uptoBulkEntry x + uptoBulkEntries r
def uptoBulkEntry {H : Type} : Lit × DataW H → Nat
  | (.string bytes, d) => bytes.length + uptoBulk d + 1
  | (_, d) => uptoBulk d + 1
 end
def uptoSmall : (H : Type) → List (DataW H) → Bool := fun _ ds => decide (uptoBulkAll ds ≤ 1048576)
def OpenSpec.upto (s : _root_.Go.ChangeSpec) : _root_.Go.OpenSpec := { _root_.Go.OpenSpec.ofChange s with cond := some uptoSmall }

/-- 'droverlaw7.MessageAny', WHERE WHAT IT READS IS OF BULK AT MOST 1048576: true; the input reads as it did. -/
def messageAnyUptoRow : OpenClaim := { program := "ytmnogefpphonlaa", sum := "67b5d324850866f2fa06276281c9a3c903e8ece3c39fcdadd6a13d83114bac3e", func := "drover/droverlaw7.MessageAny", spec := "messageAny", unfollowed := true, recurses := true, apart := false, narrowed := true }
def MessageAnyUptoSaid : Prop := messageAnyUptoRow.holds Try.pinned (OpenSpec.upto messageAnySpec)

/-- 'droverlaw7.MessageTurned', WHERE WHAT IT READS IS OF BULK AT MOST 1048576: true; the input reads as it did. -/
def messageTurnedUptoRow : OpenClaim := { program := "ytmnogefpphonlaa", sum := "67b5d324850866f2fa06276281c9a3c903e8ece3c39fcdadd6a13d83114bac3e", func := "drover/droverlaw7.MessageTurned", spec := "messageTurned", unfollowed := true, recurses := true, apart := false, narrowed := true }
def MessageTurnedUptoSaid : Prop := messageTurnedUptoRow.holds Try.pinned (OpenSpec.upto messageTurnedSpec)

/-- 'droverlaw7.MessageChecks', WHERE WHAT IT READS IS OF BULK AT MOST 1048576: true; the input reads as it did. -/
def messageChecksUptoRow : OpenClaim := { program := "ytmnogefpphonlaa", sum := "67b5d324850866f2fa06276281c9a3c903e8ece3c39fcdadd6a13d83114bac3e", func := "drover/droverlaw7.MessageChecks", spec := "messageChecks", unfollowed := true, recurses := true, apart := false, narrowed := true }
def MessageChecksUptoSaid : Prop := messageChecksUptoRow.holds Try.pinned (OpenSpec.upto messageChecksSpec)

/-- 'droverlaw7.MessageWider', WHERE WHAT IT READS IS OF BULK AT MOST 1048576: true; the input reads as it did. -/
def messageWiderUptoRow : OpenClaim := { program := "ytmnogefpphonlaa", sum := "67b5d324850866f2fa06276281c9a3c903e8ece3c39fcdadd6a13d83114bac3e", func := "drover/droverlaw7.MessageWider", spec := "messageWider", unfollowed := true, recurses := true, apart := false, narrowed := true }
def MessageWiderUptoSaid : Prop := messageWiderUptoRow.holds Try.pinned (OpenSpec.upto messageWiderSpec)

/-- 'droverlaw7.MessageBatches', WHERE WHAT IT READS IS OF BULK AT MOST 1048576: true; the input reads as it did. -/
def messageBatchesUptoRow : OpenClaim := { program := "ytmnogefpphonlaa", sum := "67b5d324850866f2fa06276281c9a3c903e8ece3c39fcdadd6a13d83114bac3e", func := "drover/droverlaw7.MessageBatches", spec := "messageBatches", unfollowed := true, recurses := true, apart := false, narrowed := true }
def MessageBatchesUptoSaid : Prop := messageBatchesUptoRow.holds Try.pinned (OpenSpec.upto messageBatchesSpec)

/-- 'droverlaw7.MessageGives', WHERE WHAT IT READS IS OF BULK AT MOST 1048576: true; the input reads as it did. -/
def messageGivesUptoRow : OpenClaim := { program := "ytmnogefpphonlaa", sum := "67b5d324850866f2fa06276281c9a3c903e8ece3c39fcdadd6a13d83114bac3e", func := "drover/droverlaw7.MessageGives", spec := "messageGives", unfollowed := true, recurses := true, apart := false, narrowed := true }
def MessageGivesUptoSaid : Prop := messageGivesUptoRow.holds Try.pinned (OpenSpec.upto messageGivesSpec)

/-- 'droverlaw7.MessageTells', WHERE WHAT IT READS IS OF BULK AT MOST 1048576: true; the input reads as it did. -/
def messageTellsUptoRow : OpenClaim := { program := "ytmnogefpphonlaa", sum := "67b5d324850866f2fa06276281c9a3c903e8ece3c39fcdadd6a13d83114bac3e", func := "drover/droverlaw7.MessageTells", spec := "messageTells", unfollowed := true, recurses := true, apart := false, narrowed := true }
def MessageTellsUptoSaid : Prop := messageTellsUptoRow.holds Try.pinned (OpenSpec.upto messageTellsSpec)

/-- 'droverlaw7.MessageVotes', WHERE WHAT IT READS IS OF BULK AT MOST 1048576: true; the input reads as it did. -/
def messageVotesUptoRow : OpenClaim := { program := "ytmnogefpphonlaa", sum := "67b5d324850866f2fa06276281c9a3c903e8ece3c39fcdadd6a13d83114bac3e", func := "drover/droverlaw7.MessageVotes", spec := "messageVotes", unfollowed := true, recurses := true, apart := false, narrowed := true }
def MessageVotesUptoSaid : Prop := messageVotesUptoRow.holds Try.pinned (OpenSpec.upto messageVotesSpec)

/-- 'droverlaw7.MessageHeaders', WHERE WHAT IT READS IS OF BULK AT MOST 1048576: true; the input reads as it did. -/
def messageHeadersUptoRow : OpenClaim := { program := "ytmnogefpphonlaa", sum := "67b5d324850866f2fa06276281c9a3c903e8ece3c39fcdadd6a13d83114bac3e", func := "drover/droverlaw7.MessageHeaders", spec := "messageHeaders", unfollowed := true, recurses := true, apart := false, narrowed := true }
def MessageHeadersUptoSaid : Prop := messageHeadersUptoRow.holds Try.pinned (OpenSpec.upto messageHeadersSpec)

/-- 'droverlaw7.MessageCerts', WHERE WHAT IT READS IS OF BULK AT MOST 1048576: true; the input reads as it did. -/
def messageCertsUptoRow : OpenClaim := { program := "ytmnogefpphonlaa", sum := "67b5d324850866f2fa06276281c9a3c903e8ece3c39fcdadd6a13d83114bac3e", func := "drover/droverlaw7.MessageCerts", spec := "messageCerts", unfollowed := true, recurses := true, apart := false, narrowed := true }
def MessageCertsUptoSaid : Prop := messageCertsUptoRow.holds Try.pinned (OpenSpec.upto messageCertsSpec)

/-- 'droverlaw7.MessageWants', WHERE WHAT IT READS IS OF BULK AT MOST 1048576: true; the input reads as it did. -/
def messageWantsUptoRow : OpenClaim := { program := "ytmnogefpphonlaa", sum := "67b5d324850866f2fa06276281c9a3c903e8ece3c39fcdadd6a13d83114bac3e", func := "drover/droverlaw7.MessageWants", spec := "messageWants", unfollowed := true, recurses := true, apart := false, narrowed := true }
def MessageWantsUptoSaid : Prop := messageWantsUptoRow.holds Try.pinned (OpenSpec.upto messageWantsSpec)

/-- 'droverlaw7.MessageSeeks', WHERE WHAT IT READS IS OF BULK AT MOST 1048576: true; the input reads as it did. -/
def messageSeeksUptoRow : OpenClaim := { program := "ytmnogefpphonlaa", sum := "67b5d324850866f2fa06276281c9a3c903e8ece3c39fcdadd6a13d83114bac3e", func := "drover/droverlaw7.MessageSeeks", spec := "messageSeeks", unfollowed := true, recurses := true, apart := false, narrowed := true }
def MessageSeeksUptoSaid : Prop := messageSeeksUptoRow.holds Try.pinned (OpenSpec.upto messageSeeksSpec)

end Rows
end Go.Proofs.Ytmnogefpphonlaa
