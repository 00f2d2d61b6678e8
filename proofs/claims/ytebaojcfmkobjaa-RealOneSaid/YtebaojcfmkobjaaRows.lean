/-
  No cell of these rows narrows 'for every input' (looked for: loops, veiled, ifaces, maps, wideKeys, modest, calm, conditions, laid).
  DERIVED. THE GIVEN ROWS OF THIS SEAT. 12 by the template 'for every input the law returns true; each argument reads behind the call as it read before'; 0 by the template 'total and deterministic' (their statements: YtebaojcfmkobjaaTotals.lean).
  GIVEN WITH THE SEED: the statements are not yours to turn. If you find one false, say at which input.
  Laid BY PROGRAM, IN A SANDBOX (cutbox-rows.mjs): the forced cells as the released guide's own fill.sh prints them over the translation 11bed55e27ca3468… (all of the seat's roots in one cut). By AI agents, Wed Nov 11 2026. No macro, syntax, notation, axiom, sorry.
-/
import Derived.Test.YtebaojcfmkobjaaChecked
import GoSem.Claim
import GoSem.ClaimJoined
import GoSem.ClaimMapViews
import Derived.JoinedTies
import Derived.KernelRfl
namespace Go.Proofs.Ytebaojcfmkobjaa
/- THE CELL 'sum', in the pinned program and in every row, IS THE sha256 OF THE DUMP (.gsa) THAT YtebaojcfmkobjaaProg.lean LOADS. Nothing in Lean hashes anything: it is a label: what it is worth is what the hold of that sum in a sandbox is worth. -/
noncomputable def Try.pinned : Pinned := { name := "ytebaojcfmkobjaa", sum := "11bed55e27ca34688573442d9d3acfae36e292c43a55ff75678c6fb1cd3f057b", checked := Try.checked }
namespace Rows
def none {H : Type} : Left H := { results := [], args := [] }

/-- 'droverlaw8.RealExact': WHATEVER THE INPUT: true; the input reads as it did. -/
def realExactSpec : ChangeSpec := { name := "realExact", fn := fun _ => fun
  | [d] => { results := [.lit (.bool true)], args := [d] }
  | _ => none }
def realExactRow : OpenClaim := { program := "ytebaojcfmkobjaa", sum := "11bed55e27ca34688573442d9d3acfae36e292c43a55ff75678c6fb1cd3f057b", func := "drover/droverlaw8.RealExact", spec := "realExact", unfollowed := true, recurses := true, plainKeys := false, apart := false }
def RealExactSaid : Prop := realExactRow.holds Try.pinned (OpenSpec.ofChange realExactSpec)

/-- ITS FALSE NEIGHBOUR: 'it returns false'. Refute it at one input. -/
def realExactWrong : ChangeSpec := { name := "realExact", fn := fun _ => fun
  | [d] => { results := [.lit (.bool false)], args := [d] }
  | _ => none }
def RealExactWrongFalsely : Prop := realExactRow.holds Try.pinned (OpenSpec.ofChange realExactWrong)

/-- 'droverlaw8.RealSigned': WHATEVER THE INPUT: true; the input reads as it did. -/
def realSignedSpec : ChangeSpec := { name := "realSigned", fn := fun _ => fun
  | [d] => { results := [.lit (.bool true)], args := [d] }
  | _ => none }
def realSignedRow : OpenClaim := { program := "ytebaojcfmkobjaa", sum := "11bed55e27ca34688573442d9d3acfae36e292c43a55ff75678c6fb1cd3f057b", func := "drover/droverlaw8.RealSigned", spec := "realSigned", unfollowed := true, recurses := true, plainKeys := false, apart := false }
def RealSignedSaid : Prop := realSignedRow.holds Try.pinned (OpenSpec.ofChange realSignedSpec)

/-- ITS FALSE NEIGHBOUR: 'it returns false'. Refute it at one input. -/
def realSignedWrong : ChangeSpec := { name := "realSigned", fn := fun _ => fun
  | [d] => { results := [.lit (.bool false)], args := [d] }
  | _ => none }
def RealSignedWrongFalsely : Prop := realSignedRow.holds Try.pinned (OpenSpec.ofChange realSignedWrong)

/-- 'droverlaw8.RealOne': WHATEVER THE INPUT: true; the input reads as it did. -/
def realOneSpec : ChangeSpec := { name := "realOne", fn := fun _ => fun
  | [d] => { results := [.lit (.bool true)], args := [d] }
  | _ => none }
def realOneRow : OpenClaim := { program := "ytebaojcfmkobjaa", sum := "11bed55e27ca34688573442d9d3acfae36e292c43a55ff75678c6fb1cd3f057b", func := "drover/droverlaw8.RealOne", spec := "realOne", unfollowed := true, recurses := true, plainKeys := false, apart := false }
def RealOneSaid : Prop := realOneRow.holds Try.pinned (OpenSpec.ofChange realOneSpec)

/-- ITS FALSE NEIGHBOUR: 'it returns false'. Refute it at one input. -/
def realOneWrong : ChangeSpec := { name := "realOne", fn := fun _ => fun
  | [d] => { results := [.lit (.bool false)], args := [d] }
  | _ => none }
def RealOneWrongFalsely : Prop := realOneRow.holds Try.pinned (OpenSpec.ofChange realOneWrong)

/-- 'droverlaw8.RealBatches': WHATEVER THE INPUT: true; the input reads as it did. -/
def realBatchesSpec : ChangeSpec := { name := "realBatches", fn := fun _ => fun
  | [d] => { results := [.lit (.bool true)], args := [d] }
  | _ => none }
def realBatchesRow : OpenClaim := { program := "ytebaojcfmkobjaa", sum := "11bed55e27ca34688573442d9d3acfae36e292c43a55ff75678c6fb1cd3f057b", func := "drover/droverlaw8.RealBatches", spec := "realBatches", unfollowed := true, recurses := true, plainKeys := false, apart := false }
def RealBatchesSaid : Prop := realBatchesRow.holds Try.pinned (OpenSpec.ofChange realBatchesSpec)

/-- ITS FALSE NEIGHBOUR: 'it returns false'. Refute it at one input. -/
def realBatchesWrong : ChangeSpec := { name := "realBatches", fn := fun _ => fun
  | [d] => { results := [.lit (.bool false)], args := [d] }
  | _ => none }
def RealBatchesWrongFalsely : Prop := realBatchesRow.holds Try.pinned (OpenSpec.ofChange realBatchesWrong)

/-- 'droverlaw8.RealGives': WHATEVER THE INPUT: true; the input reads as it did. -/
def realGivesSpec : ChangeSpec := { name := "realGives", fn := fun _ => fun
  | [d] => { results := [.lit (.bool true)], args := [d] }
  | _ => none }
def realGivesRow : OpenClaim := { program := "ytebaojcfmkobjaa", sum := "11bed55e27ca34688573442d9d3acfae36e292c43a55ff75678c6fb1cd3f057b", func := "drover/droverlaw8.RealGives", spec := "realGives", unfollowed := true, recurses := true, plainKeys := false, apart := false }
def RealGivesSaid : Prop := realGivesRow.holds Try.pinned (OpenSpec.ofChange realGivesSpec)

/-- ITS FALSE NEIGHBOUR: 'it returns false'. Refute it at one input. -/
def realGivesWrong : ChangeSpec := { name := "realGives", fn := fun _ => fun
  | [d] => { results := [.lit (.bool false)], args := [d] }
  | _ => none }
def RealGivesWrongFalsely : Prop := realGivesRow.holds Try.pinned (OpenSpec.ofChange realGivesWrong)

/-- 'droverlaw8.RealTells': WHATEVER THE INPUT: true; the input reads as it did. -/
def realTellsSpec : ChangeSpec := { name := "realTells", fn := fun _ => fun
  | [d] => { results := [.lit (.bool true)], args := [d] }
  | _ => none }
def realTellsRow : OpenClaim := { program := "ytebaojcfmkobjaa", sum := "11bed55e27ca34688573442d9d3acfae36e292c43a55ff75678c6fb1cd3f057b", func := "drover/droverlaw8.RealTells", spec := "realTells", unfollowed := true, recurses := true, plainKeys := false, apart := false }
def RealTellsSaid : Prop := realTellsRow.holds Try.pinned (OpenSpec.ofChange realTellsSpec)

/-- ITS FALSE NEIGHBOUR: 'it returns false'. Refute it at one input. -/
def realTellsWrong : ChangeSpec := { name := "realTells", fn := fun _ => fun
  | [d] => { results := [.lit (.bool false)], args := [d] }
  | _ => none }
def RealTellsWrongFalsely : Prop := realTellsRow.holds Try.pinned (OpenSpec.ofChange realTellsWrong)

/-- 'droverlaw8.RealVotes': WHATEVER THE INPUT: true; the input reads as it did. -/
def realVotesSpec : ChangeSpec := { name := "realVotes", fn := fun _ => fun
  | [d] => { results := [.lit (.bool true)], args := [d] }
  | _ => none }
def realVotesRow : OpenClaim := { program := "ytebaojcfmkobjaa", sum := "11bed55e27ca34688573442d9d3acfae36e292c43a55ff75678c6fb1cd3f057b", func := "drover/droverlaw8.RealVotes", spec := "realVotes", unfollowed := true, recurses := true, plainKeys := false, apart := false }
def RealVotesSaid : Prop := realVotesRow.holds Try.pinned (OpenSpec.ofChange realVotesSpec)

/-- ITS FALSE NEIGHBOUR: 'it returns false'. Refute it at one input. -/
def realVotesWrong : ChangeSpec := { name := "realVotes", fn := fun _ => fun
  | [d] => { results := [.lit (.bool false)], args := [d] }
  | _ => none }
def RealVotesWrongFalsely : Prop := realVotesRow.holds Try.pinned (OpenSpec.ofChange realVotesWrong)

/-- 'droverlaw8.RealHeaders': WHATEVER THE INPUT: true; the input reads as it did. -/
def realHeadersSpec : ChangeSpec := { name := "realHeaders", fn := fun _ => fun
  | [d] => { results := [.lit (.bool true)], args := [d] }
  | _ => none }
def realHeadersRow : OpenClaim := { program := "ytebaojcfmkobjaa", sum := "11bed55e27ca34688573442d9d3acfae36e292c43a55ff75678c6fb1cd3f057b", func := "drover/droverlaw8.RealHeaders", spec := "realHeaders", unfollowed := true, recurses := true, plainKeys := false, apart := false }
def RealHeadersSaid : Prop := realHeadersRow.holds Try.pinned (OpenSpec.ofChange realHeadersSpec)

/-- ITS FALSE NEIGHBOUR: 'it returns false'. Refute it at one input. -/
def realHeadersWrong : ChangeSpec := { name := "realHeaders", fn := fun _ => fun
  | [d] => { results := [.lit (.bool false)], args := [d] }
  | _ => none }
def RealHeadersWrongFalsely : Prop := realHeadersRow.holds Try.pinned (OpenSpec.ofChange realHeadersWrong)

/-- 'droverlaw8.RealCerts': WHATEVER THE INPUT: true; the input reads as it did. -/
def realCertsSpec : ChangeSpec := { name := "realCerts", fn := fun _ => fun
  | [d] => { results := [.lit (.bool true)], args := [d] }
  | _ => none }
def realCertsRow : OpenClaim := { program := "ytebaojcfmkobjaa", sum := "11bed55e27ca34688573442d9d3acfae36e292c43a55ff75678c6fb1cd3f057b", func := "drover/droverlaw8.RealCerts", spec := "realCerts", unfollowed := true, recurses := true, plainKeys := false, apart := false }
def RealCertsSaid : Prop := realCertsRow.holds Try.pinned (OpenSpec.ofChange realCertsSpec)

/-- ITS FALSE NEIGHBOUR: 'it returns false'. Refute it at one input. -/
def realCertsWrong : ChangeSpec := { name := "realCerts", fn := fun _ => fun
  | [d] => { results := [.lit (.bool false)], args := [d] }
  | _ => none }
def RealCertsWrongFalsely : Prop := realCertsRow.holds Try.pinned (OpenSpec.ofChange realCertsWrong)

/-- 'droverlaw8.RealWants': WHATEVER THE INPUT: true; the input reads as it did. -/
def realWantsSpec : ChangeSpec := { name := "realWants", fn := fun _ => fun
  | [d] => { results := [.lit (.bool true)], args := [d] }
  | _ => none }
def realWantsRow : OpenClaim := { program := "ytebaojcfmkobjaa", sum := "11bed55e27ca34688573442d9d3acfae36e292c43a55ff75678c6fb1cd3f057b", func := "drover/droverlaw8.RealWants", spec := "realWants", unfollowed := true, recurses := true, plainKeys := false, apart := false }
def RealWantsSaid : Prop := realWantsRow.holds Try.pinned (OpenSpec.ofChange realWantsSpec)

/-- ITS FALSE NEIGHBOUR: 'it returns false'. Refute it at one input. -/
def realWantsWrong : ChangeSpec := { name := "realWants", fn := fun _ => fun
  | [d] => { results := [.lit (.bool false)], args := [d] }
  | _ => none }
def RealWantsWrongFalsely : Prop := realWantsRow.holds Try.pinned (OpenSpec.ofChange realWantsWrong)

/-- 'droverlaw8.RealSeeks': WHATEVER THE INPUT: true; the input reads as it did. -/
def realSeeksSpec : ChangeSpec := { name := "realSeeks", fn := fun _ => fun
  | [d] => { results := [.lit (.bool true)], args := [d] }
  | _ => none }
def realSeeksRow : OpenClaim := { program := "ytebaojcfmkobjaa", sum := "11bed55e27ca34688573442d9d3acfae36e292c43a55ff75678c6fb1cd3f057b", func := "drover/droverlaw8.RealSeeks", spec := "realSeeks", unfollowed := true, recurses := true, plainKeys := false, apart := false }
def RealSeeksSaid : Prop := realSeeksRow.holds Try.pinned (OpenSpec.ofChange realSeeksSpec)

/-- ITS FALSE NEIGHBOUR: 'it returns false'. Refute it at one input. -/
def realSeeksWrong : ChangeSpec := { name := "realSeeks", fn := fun _ => fun
  | [d] => { results := [.lit (.bool false)], args := [d] }
  | _ => none }
def RealSeeksWrongFalsely : Prop := realSeeksRow.holds Try.pinned (OpenSpec.ofChange realSeeksWrong)

/-- 'droverlaw8.RealStrange': WHATEVER THE INPUT: true; the input reads as it did. -/
def realStrangeSpec : ChangeSpec := { name := "realStrange", fn := fun _ => fun
  | [d] => { results := [.lit (.bool true)], args := [d] }
  | _ => none }
def realStrangeRow : OpenClaim := { program := "ytebaojcfmkobjaa", sum := "11bed55e27ca34688573442d9d3acfae36e292c43a55ff75678c6fb1cd3f057b", func := "drover/droverlaw8.RealStrange", spec := "realStrange", unfollowed := true, recurses := true, plainKeys := false, apart := false }
def RealStrangeSaid : Prop := realStrangeRow.holds Try.pinned (OpenSpec.ofChange realStrangeSpec)

/-- ITS FALSE NEIGHBOUR: 'it returns false'. Refute it at one input. -/
def realStrangeWrong : ChangeSpec := { name := "realStrange", fn := fun _ => fun
  | [d] => { results := [.lit (.bool false)], args := [d] }
  | _ => none }
def RealStrangeWrongFalsely : Prop := realStrangeRow.holds Try.pinned (OpenSpec.ofChange realStrangeWrong)

/- THE SECOND FORM. 'bulk': how many values and letters a reading holds, each counted each time it is reached (what is shared counts as often as it is met; a slice's spare places count too). A statement '..UptoSaid' is the law's where the arguments, and the package variables that the reading takes, are together of bulk at most 1048576: NARROWER than '..Said'. Prove '..Said' where nothing that the law and all that it calls make is longer than what came in: it says more and counts as full. Else prove '..UptoSaid'. A law counts once. -/
mutual
def uptoBulk {H : Type} : DataW H → Nat
  | .lit (.string bytes) => bytes.length + 1
  | .lit _ => 1
  | .nil => 1
  | .ptr d => uptoBulk d + 1
  | .slice elems spare => uptoBulkAll elems + uptoBulkAll spare + 1
  | .agg parts => uptoBulkAll parts + 1
  | .iface _ d => uptoBulk d + 1
  | .map entries => uptoBulkEntries entries + 1
  | .held _ => 1
def uptoBulkAll {H : Type} : List (DataW H) → Nat
  | [] => 0
  | d :: r => uptoBulk d + uptoBulkAll r
def uptoBulkEntries {H : Type} : List (Lit × DataW H) → Nat
  | [] => 0
  | x :: r => uptoBulkEntry x + uptoBulkEntries r
def uptoBulkEntry {H : Type} : Lit × DataW H → Nat
  | (.string bytes, d) => bytes.length + uptoBulk d + 1
  | (_, d) => uptoBulk d + 1
 end
def uptoSmall : (H : Type) → List (DataW H) → Bool := fun _ ds => decide (uptoBulkAll ds ≤ 1048576)
def OpenSpec.upto (s : _root_.Go.ChangeSpec) : _root_.Go.OpenSpec := { _root_.Go.OpenSpec.ofChange s with cond := some uptoSmall }

/-- 'droverlaw8.RealExact', WHERE WHAT IT READS IS OF BULK AT MOST 1048576: true; the input reads as it did. -/
def realExactUptoRow : OpenClaim := { program := "ytebaojcfmkobjaa", sum := "11bed55e27ca34688573442d9d3acfae36e292c43a55ff75678c6fb1cd3f057b", func := "drover/droverlaw8.RealExact", spec := "realExact", unfollowed := true, recurses := true, plainKeys := false, apart := false, narrowed := true }
def RealExactUptoSaid : Prop := realExactUptoRow.holds Try.pinned (OpenSpec.upto realExactSpec)

/-- 'droverlaw8.RealSigned', WHERE WHAT IT READS IS OF BULK AT MOST 1048576: true; the input reads as it did. -/
def realSignedUptoRow : OpenClaim := { program := "ytebaojcfmkobjaa", sum := "11bed55e27ca34688573442d9d3acfae36e292c43a55ff75678c6fb1cd3f057b", func := "drover/droverlaw8.RealSigned", spec := "realSigned", unfollowed := true, recurses := true, plainKeys := false, apart := false, narrowed := true }
def RealSignedUptoSaid : Prop := realSignedUptoRow.holds Try.pinned (OpenSpec.upto realSignedSpec)

/-- 'droverlaw8.RealOne', WHERE WHAT IT READS IS OF BULK AT MOST 1048576: true; the input reads as it did. -/
def realOneUptoRow : OpenClaim := { program := "ytebaojcfmkobjaa", sum := "11bed55e27ca34688573442d9d3acfae36e292c43a55ff75678c6fb1cd3f057b", func := "drover/droverlaw8.RealOne", spec := "realOne", unfollowed := true, recurses := true, plainKeys := false, apart := false, narrowed := true }
def RealOneUptoSaid : Prop := realOneUptoRow.holds Try.pinned (OpenSpec.upto realOneSpec)

/-- 'droverlaw8.RealBatches', WHERE WHAT IT READS IS OF BULK AT MOST 1048576: true; the input reads as it did. -/
def realBatchesUptoRow : OpenClaim := { program := "ytebaojcfmkobjaa", sum := "11bed55e27ca34688573442d9d3acfae36e292c43a55ff75678c6fb1cd3f057b", func := "drover/droverlaw8.RealBatches", spec := "realBatches", unfollowed := true, recurses := true, plainKeys := false, apart := false, narrowed := true }
def RealBatchesUptoSaid : Prop := realBatchesUptoRow.holds Try.pinned (OpenSpec.upto realBatchesSpec)

/-- 'droverlaw8.RealGives', WHERE WHAT IT READS IS OF BULK AT MOST 1048576: true; the input reads as it did. -/
def realGivesUptoRow : OpenClaim := { program := "ytebaojcfmkobjaa", sum := "11bed55e27ca34688573442d9d3acfae36e292c43a55ff75678c6fb1cd3f057b", func := "drover/droverlaw8.RealGives", spec := "realGives", unfollowed := true, recurses := true, plainKeys := false, apart := false, narrowed := true }
def RealGivesUptoSaid : Prop := realGivesUptoRow.holds Try.pinned (OpenSpec.upto realGivesSpec)

/-- 'droverlaw8.RealTells', WHERE WHAT IT READS IS OF BULK AT MOST 1048576: true; the input reads as it did. -/
def realTellsUptoRow : OpenClaim := { program := "ytebaojcfmkobjaa", sum := "11bed55e27ca34688573442d9d3acfae36e292c43a55ff75678c6fb1cd3f057b", func := "drover/droverlaw8.RealTells", spec := "realTells", unfollowed := true, recurses := true, plainKeys := false, apart := false, narrowed := true }
def RealTellsUptoSaid : Prop := realTellsUptoRow.holds Try.pinned (OpenSpec.upto realTellsSpec)

/-- 'droverlaw8.RealVotes', WHERE WHAT IT READS IS OF BULK AT MOST 1048576: true; the input reads as it did. -/
def realVotesUptoRow : OpenClaim := { program := "ytebaojcfmkobjaa", sum := "11bed55e27ca34688573442d9d3acfae36e292c43a55ff75678c6fb1cd3f057b", func := "drover/droverlaw8.RealVotes", spec := "realVotes", unfollowed := true, recurses := true, plainKeys := false, apart := false, narrowed := true }
def RealVotesUptoSaid : Prop := realVotesUptoRow.holds Try.pinned (OpenSpec.upto realVotesSpec)

/-- 'droverlaw8.RealHeaders', WHERE WHAT IT READS IS OF BULK AT MOST 1048576: true; the input reads as it did. -/
def realHeadersUptoRow : OpenClaim := { program := "ytebaojcfmkobjaa", sum := "11bed55e27ca34688573442d9d3acfae36e292c43a55ff75678c6fb1cd3f057b", func := "drover/droverlaw8.RealHeaders", spec := "realHeaders", unfollowed := true, recurses := true, plainKeys := false, apart := false, narrowed := true }
def RealHeadersUptoSaid : Prop := realHeadersUptoRow.holds Try.pinned (OpenSpec.upto realHeadersSpec)

/-- 'droverlaw8.RealCerts', WHERE WHAT IT READS IS OF BULK AT MOST 1048576: true; the input reads as it did. -/
def realCertsUptoRow : OpenClaim := { program := "ytebaojcfmkobjaa", sum := "11bed55e27ca34688573442d9d3acfae36e292c43a55ff75678c6fb1cd3f057b", func := "drover/droverlaw8.RealCerts", spec := "realCerts", unfollowed := true, recurses := true, plainKeys := false, apart := false, narrowed := true }
def RealCertsUptoSaid : Prop := realCertsUptoRow.holds Try.pinned (OpenSpec.upto realCertsSpec)

/-- 'droverlaw8.RealWants', WHERE WHAT IT READS IS OF BULK AT MOST 1048576: true; the input reads as it did. -/
def realWantsUptoRow : OpenClaim := { program := "ytebaojcfmkobjaa", sum := "11bed55e27ca34688573442d9d3acfae36e292c43a55ff75678c6fb1cd3f057b", func := "drover/droverlaw8.RealWants", spec := "realWants", unfollowed := true, recurses := true, plainKeys := false, apart := false, narrowed := true }
def RealWantsUptoSaid : Prop := realWantsUptoRow.holds Try.pinned (OpenSpec.upto realWantsSpec)

/-- 'droverlaw8.RealSeeks', WHERE WHAT IT READS IS OF BULK AT MOST 1048576: true; the input reads as it did. -/
def realSeeksUptoRow : OpenClaim := { program := "ytebaojcfmkobjaa", sum := "11bed55e27ca34688573442d9d3acfae36e292c43a55ff75678c6fb1cd3f057b", func := "drover/droverlaw8.RealSeeks", spec := "realSeeks", unfollowed := true, recurses := true, plainKeys := false, apart := false, narrowed := true }
def RealSeeksUptoSaid : Prop := realSeeksUptoRow.holds Try.pinned (OpenSpec.upto realSeeksSpec)

/-- 'droverlaw8.RealStrange', WHERE WHAT IT READS IS OF BULK AT MOST 1048576: true; the input reads as it did. -/
def realStrangeUptoRow : OpenClaim := { program := "ytebaojcfmkobjaa", sum := "11bed55e27ca34688573442d9d3acfae36e292c43a55ff75678c6fb1cd3f057b", func := "drover/droverlaw8.RealStrange", spec := "realStrange", unfollowed := true, recurses := true, plainKeys := false, apart := false, narrowed := true }
def RealStrangeUptoSaid : Prop := realStrangeUptoRow.holds Try.pinned (OpenSpec.upto realStrangeSpec)

end Rows
end Go.Proofs.Ytebaojcfmkobjaa
