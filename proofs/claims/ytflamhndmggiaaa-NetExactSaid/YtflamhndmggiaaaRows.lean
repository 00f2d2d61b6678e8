/-
  No cell of these rows narrows 'for every input' (looked for: loops, veiled, ifaces, maps, wideKeys, modest, calm, conditions, laid).
  DERIVED. THE GIVEN ROWS OF THIS SEAT. 12 by the template 'for every input the law returns true; each argument reads behind the call as it read before'; 0 by the template 'total and deterministic' (their statements: YtflamhndmggiaaaTotals.lean).
  GIVEN WITH THE SEED: the statements are not yours to turn. If you find one false, say at which input.
  Laid BY PROGRAM, IN A SANDBOX (cutbox-rows.mjs): the forced cells as the released guide's own fill.sh prints them over the translation 593242ab4e53e076… (all of the seat's roots in one cut). By AI agents, Wed Nov 11 2026. No macro, syntax, notation, axiom, sorry.
-/
import Derived.Test.YtflamhndmggiaaaChecked
import GoSem.Claim
import GoSem.ClaimJoined
import GoSem.ClaimMapViews
import Derived.JoinedTies
import Derived.KernelRfl
namespace Go.Proofs.Ytflamhndmggiaaa
/- THE CELL 'sum', in the pinned program and in every row, IS THE sha256 OF THE DUMP (.gsa) THAT YtflamhndmggiaaaProg.lean LOADS. Nothing in Lean hashes anything: it is a label: what it is worth is what the hold of that sum in a sandbox is worth. -/
noncomputable def Try.pinned : Pinned := { name := "ytflamhndmggiaaa", sum := "593242ab4e53e076772e9dce455cdc8f02f700e3298fa5506aa1d4790bfa138e", checked := Try.checked }
namespace Rows
def none {H : Type} : Left H := { results := [], args := [] }

/-- 'droverlaw5.BookSigns': WHATEVER THE INPUT: true; the input reads as it did. -/
def bookSignsSpec : ChangeSpec := { name := "bookSigns", fn := fun _ => fun
  | [d] => { results := [.lit (.bool true)], args := [d] }
  | _ => none }
def bookSignsRow : OpenClaim := { program := "ytflamhndmggiaaa", sum := "593242ab4e53e076772e9dce455cdc8f02f700e3298fa5506aa1d4790bfa138e", func := "drover/droverlaw5.BookSigns", spec := "bookSigns", plainKeys := false, apart := false }
def BookSignsSaid : Prop := bookSignsRow.holds Try.pinned (OpenSpec.ofChange bookSignsSpec)

/-- ITS FALSE NEIGHBOUR: 'it returns false'. Refute it at one input. -/
def bookSignsWrong : ChangeSpec := { name := "bookSigns", fn := fun _ => fun
  | [d] => { results := [.lit (.bool false)], args := [d] }
  | _ => none }
def BookSignsWrongFalsely : Prop := bookSignsRow.holds Try.pinned (OpenSpec.ofChange bookSignsWrong)

/-- 'droverlaw5.BookOnce': WHATEVER THE INPUT: true; the input reads as it did. -/
def bookOnceSpec : ChangeSpec := { name := "bookOnce", fn := fun _ => fun
  | [d] => { results := [.lit (.bool true)], args := [d] }
  | _ => none }
def bookOnceRow : OpenClaim := { program := "ytflamhndmggiaaa", sum := "593242ab4e53e076772e9dce455cdc8f02f700e3298fa5506aa1d4790bfa138e", func := "drover/droverlaw5.BookOnce", spec := "bookOnce", plainKeys := false, apart := false }
def BookOnceSaid : Prop := bookOnceRow.holds Try.pinned (OpenSpec.ofChange bookOnceSpec)

/-- ITS FALSE NEIGHBOUR: 'it returns false'. Refute it at one input. -/
def bookOnceWrong : ChangeSpec := { name := "bookOnce", fn := fun _ => fun
  | [d] => { results := [.lit (.bool false)], args := [d] }
  | _ => none }
def BookOnceWrongFalsely : Prop := bookOnceRow.holds Try.pinned (OpenSpec.ofChange bookOnceWrong)

/-- 'droverlaw2.WireNums': WHATEVER THE INPUT: true; the input reads as it did. -/
def wireNumsSpec : ChangeSpec := { name := "wireNums", fn := fun _ => fun
  | [d] => { results := [.lit (.bool true)], args := [d] }
  | _ => none }
def wireNumsRow : OpenClaim := { program := "ytflamhndmggiaaa", sum := "593242ab4e53e076772e9dce455cdc8f02f700e3298fa5506aa1d4790bfa138e", func := "drover/droverlaw2.WireNums", spec := "wireNums", plainKeys := false, apart := false }
def WireNumsSaid : Prop := wireNumsRow.holds Try.pinned (OpenSpec.ofChange wireNumsSpec)

/-- ITS FALSE NEIGHBOUR: 'it returns false'. Refute it at one input. -/
def wireNumsWrong : ChangeSpec := { name := "wireNums", fn := fun _ => fun
  | [d] => { results := [.lit (.bool false)], args := [d] }
  | _ => none }
def WireNumsWrongFalsely : Prop := wireNumsRow.holds Try.pinned (OpenSpec.ofChange wireNumsWrong)

/-- 'droverlaw5.BookExact': WHATEVER THE INPUT: true; the input reads as it did. -/
def bookExactSpec : ChangeSpec := { name := "bookExact", fn := fun _ => fun
  | [d] => { results := [.lit (.bool true)], args := [d] }
  | _ => none }
def bookExactRow : OpenClaim := { program := "ytflamhndmggiaaa", sum := "593242ab4e53e076772e9dce455cdc8f02f700e3298fa5506aa1d4790bfa138e", func := "drover/droverlaw5.BookExact", spec := "bookExact", plainKeys := false, apart := false }
def BookExactSaid : Prop := bookExactRow.holds Try.pinned (OpenSpec.ofChange bookExactSpec)

/-- ITS FALSE NEIGHBOUR: 'it returns false'. Refute it at one input. -/
def bookExactWrong : ChangeSpec := { name := "bookExact", fn := fun _ => fun
  | [d] => { results := [.lit (.bool false)], args := [d] }
  | _ => none }
def BookExactWrongFalsely : Prop := bookExactRow.holds Try.pinned (OpenSpec.ofChange bookExactWrong)

/-- 'droverlaw12.NetKeeps': WHATEVER THE INPUT: true; the input reads as it did. -/
def netKeepsSpec : ChangeSpec := { name := "netKeeps", fn := fun _ => fun
  | [d] => { results := [.lit (.bool true)], args := [d] }
  | _ => none }
def netKeepsRow : OpenClaim := { program := "ytflamhndmggiaaa", sum := "593242ab4e53e076772e9dce455cdc8f02f700e3298fa5506aa1d4790bfa138e", func := "drover/droverlaw12.NetKeeps", spec := "netKeeps", plainKeys := false, apart := false }
def NetKeepsSaid : Prop := netKeepsRow.holds Try.pinned (OpenSpec.ofChange netKeepsSpec)

/-- ITS FALSE NEIGHBOUR: 'it returns false'. Refute it at one input. -/
def netKeepsWrong : ChangeSpec := { name := "netKeeps", fn := fun _ => fun
  | [d] => { results := [.lit (.bool false)], args := [d] }
  | _ => none }
def NetKeepsWrongFalsely : Prop := netKeepsRow.holds Try.pinned (OpenSpec.ofChange netKeepsWrong)

/-- 'droverlaw2.WireSizes': WHATEVER THE INPUT: true; the input reads as it did. -/
def wireSizesSpec : ChangeSpec := { name := "wireSizes", fn := fun _ => fun
  | [d] => { results := [.lit (.bool true)], args := [d] }
  | _ => none }
def wireSizesRow : OpenClaim := { program := "ytflamhndmggiaaa", sum := "593242ab4e53e076772e9dce455cdc8f02f700e3298fa5506aa1d4790bfa138e", func := "drover/droverlaw2.WireSizes", spec := "wireSizes", plainKeys := false, apart := false }
def WireSizesSaid : Prop := wireSizesRow.holds Try.pinned (OpenSpec.ofChange wireSizesSpec)

/-- ITS FALSE NEIGHBOUR: 'it returns false'. Refute it at one input. -/
def wireSizesWrong : ChangeSpec := { name := "wireSizes", fn := fun _ => fun
  | [d] => { results := [.lit (.bool false)], args := [d] }
  | _ => none }
def WireSizesWrongFalsely : Prop := wireSizesRow.holds Try.pinned (OpenSpec.ofChange wireSizesWrong)

/-- 'droverlaw12.NetFull': WHATEVER THE INPUT: true; the input reads as it did. -/
def netFullSpec : ChangeSpec := { name := "netFull", fn := fun _ => fun
  | [d] => { results := [.lit (.bool true)], args := [d] }
  | _ => none }
def netFullRow : OpenClaim := { program := "ytflamhndmggiaaa", sum := "593242ab4e53e076772e9dce455cdc8f02f700e3298fa5506aa1d4790bfa138e", func := "drover/droverlaw12.NetFull", spec := "netFull", plainKeys := false, apart := false }
def NetFullSaid : Prop := netFullRow.holds Try.pinned (OpenSpec.ofChange netFullSpec)

/-- ITS FALSE NEIGHBOUR: 'it returns false'. Refute it at one input. -/
def netFullWrong : ChangeSpec := { name := "netFull", fn := fun _ => fun
  | [d] => { results := [.lit (.bool false)], args := [d] }
  | _ => none }
def NetFullWrongFalsely : Prop := netFullRow.holds Try.pinned (OpenSpec.ofChange netFullWrong)

/-- 'droverlaw12.NetExact': WHATEVER THE INPUT: true; the input reads as it did. -/
def netExactSpec : ChangeSpec := { name := "netExact", fn := fun _ => fun
  | [d] => { results := [.lit (.bool true)], args := [d] }
  | _ => none }
def netExactRow : OpenClaim := { program := "ytflamhndmggiaaa", sum := "593242ab4e53e076772e9dce455cdc8f02f700e3298fa5506aa1d4790bfa138e", func := "drover/droverlaw12.NetExact", spec := "netExact", plainKeys := false, apart := false }
def NetExactSaid : Prop := netExactRow.holds Try.pinned (OpenSpec.ofChange netExactSpec)

/-- ITS FALSE NEIGHBOUR: 'it returns false'. Refute it at one input. -/
def netExactWrong : ChangeSpec := { name := "netExact", fn := fun _ => fun
  | [d] => { results := [.lit (.bool false)], args := [d] }
  | _ => none }
def NetExactWrongFalsely : Prop := netExactRow.holds Try.pinned (OpenSpec.ofChange netExactWrong)

/-- 'droverlaw2.WirePuts': WHATEVER THE INPUT: true; the input reads as it did. -/
def wirePutsSpec : ChangeSpec := { name := "wirePuts", fn := fun _ => fun
  | [d] => { results := [.lit (.bool true)], args := [d] }
  | _ => none }
def wirePutsRow : OpenClaim := { program := "ytflamhndmggiaaa", sum := "593242ab4e53e076772e9dce455cdc8f02f700e3298fa5506aa1d4790bfa138e", func := "drover/droverlaw2.WirePuts", spec := "wirePuts", unfollowed := true, recurses := true, plainKeys := false, apart := false }
def WirePutsSaid : Prop := wirePutsRow.holds Try.pinned (OpenSpec.ofChange wirePutsSpec)

/-- ITS FALSE NEIGHBOUR: 'it returns false'. Refute it at one input. -/
def wirePutsWrong : ChangeSpec := { name := "wirePuts", fn := fun _ => fun
  | [d] => { results := [.lit (.bool false)], args := [d] }
  | _ => none }
def WirePutsWrongFalsely : Prop := wirePutsRow.holds Try.pinned (OpenSpec.ofChange wirePutsWrong)

/-- 'droverlaw2.WireLists': WHATEVER THE INPUT: true; the input reads as it did. -/
def wireListsSpec : ChangeSpec := { name := "wireLists", fn := fun _ => fun
  | [d] => { results := [.lit (.bool true)], args := [d] }
  | _ => none }
def wireListsRow : OpenClaim := { program := "ytflamhndmggiaaa", sum := "593242ab4e53e076772e9dce455cdc8f02f700e3298fa5506aa1d4790bfa138e", func := "drover/droverlaw2.WireLists", spec := "wireLists", unfollowed := true, recurses := true, plainKeys := false, apart := false }
def WireListsSaid : Prop := wireListsRow.holds Try.pinned (OpenSpec.ofChange wireListsSpec)

/-- ITS FALSE NEIGHBOUR: 'it returns false'. Refute it at one input. -/
def wireListsWrong : ChangeSpec := { name := "wireLists", fn := fun _ => fun
  | [d] => { results := [.lit (.bool false)], args := [d] }
  | _ => none }
def WireListsWrongFalsely : Prop := wireListsRow.holds Try.pinned (OpenSpec.ofChange wireListsWrong)

/-- 'droverlaw2.WireBack': WHATEVER THE INPUT: true; the input reads as it did. -/
def wireBackSpec : ChangeSpec := { name := "wireBack", fn := fun _ => fun
  | [d] => { results := [.lit (.bool true)], args := [d] }
  | _ => none }
def wireBackRow : OpenClaim := { program := "ytflamhndmggiaaa", sum := "593242ab4e53e076772e9dce455cdc8f02f700e3298fa5506aa1d4790bfa138e", func := "drover/droverlaw2.WireBack", spec := "wireBack", unfollowed := true, recurses := true, plainKeys := false, apart := false }
def WireBackSaid : Prop := wireBackRow.holds Try.pinned (OpenSpec.ofChange wireBackSpec)

/-- ITS FALSE NEIGHBOUR: 'it returns false'. Refute it at one input. -/
def wireBackWrong : ChangeSpec := { name := "wireBack", fn := fun _ => fun
  | [d] => { results := [.lit (.bool false)], args := [d] }
  | _ => none }
def WireBackWrongFalsely : Prop := wireBackRow.holds Try.pinned (OpenSpec.ofChange wireBackWrong)

/-- 'droverlaw2.WireAny': WHATEVER THE INPUT: true; the input reads as it did. -/
def wireAnySpec : ChangeSpec := { name := "wireAny", fn := fun _ => fun
  | [d] => { results := [.lit (.bool true)], args := [d] }
  | _ => none }
def wireAnyRow : OpenClaim := { program := "ytflamhndmggiaaa", sum := "593242ab4e53e076772e9dce455cdc8f02f700e3298fa5506aa1d4790bfa138e", func := "drover/droverlaw2.WireAny", spec := "wireAny", unfollowed := true, recurses := true, plainKeys := false, apart := false }
def WireAnySaid : Prop := wireAnyRow.holds Try.pinned (OpenSpec.ofChange wireAnySpec)

/-- ITS FALSE NEIGHBOUR: 'it returns false'. Refute it at one input. -/
def wireAnyWrong : ChangeSpec := { name := "wireAny", fn := fun _ => fun
  | [d] => { results := [.lit (.bool false)], args := [d] }
  | _ => none }
def WireAnyWrongFalsely : Prop := wireAnyRow.holds Try.pinned (OpenSpec.ofChange wireAnyWrong)

/- THE SECOND FORM. 'bulk': how many values and letters a reading holds, each counted each time it is reached (what is shared counts as often as it is met; a slice's spare places count too). A statement '..UptoSaid' is the law's where the arguments, and the package variables that the reading takes, are together of bulk at most 1048576: NARROWER than '..Said'. Prove '..Said' where nothing that the law and all that it calls make is longer than what came in: it says more and counts as full. Else prove '..UptoSaid'. A law counts once. -/
mutual
def uptoBulk {H : Type} : DataW H → Nat
  | .lit (.string bytes) => bytes.length + 1
  | .lit _ => 1
  | .nil => 1
  | .ptr d => uptoBulk d + 1
  | .slice elems spare => uptoBulkAll elems + uptoBulkAll spare + 1
  | .agg parts => uptoBulkAll parts + 1
  | .iface _ d => uptoBulk d + 1
  | .map entries => uptoBulkEntries entries + 1
  | .held _ => 1
def uptoBulkAll {H : Type} : List (DataW H) → Nat
  | [] => 0
  | d :: r => uptoBulk d + uptoBulkAll r
def uptoBulkEntries {H : Type} : List (Lit × DataW H) → Nat
  | [] => 0
  | x :: r => uptoBulkEntry x + uptoBulkEntries r
def uptoBulkEntry {H : Type} : Lit × DataW H → Nat
  | (.string bytes, d) => bytes.length + uptoBulk d + 1
  | (_, d) => uptoBulk d + 1
 end
def uptoSmall : (H : Type) → List (DataW H) → Bool := fun _ ds => decide (uptoBulkAll ds ≤ 1048576)
def OpenSpec.upto (s : _root_.Go.ChangeSpec) : _root_.Go.OpenSpec := { _root_.Go.OpenSpec.ofChange s with cond := some uptoSmall }

/-- 'droverlaw5.BookSigns', WHERE WHAT IT READS IS OF BULK AT MOST 1048576: true; the input reads as it did. -/
def bookSignsUptoRow : OpenClaim := { program := "ytflamhndmggiaaa", sum := "593242ab4e53e076772e9dce455cdc8f02f700e3298fa5506aa1d4790bfa138e", func := "drover/droverlaw5.BookSigns", spec := "bookSigns", plainKeys := false, apart := false, narrowed := true }
def BookSignsUptoSaid : Prop := bookSignsUptoRow.holds Try.pinned (OpenSpec.upto bookSignsSpec)

/-- 'droverlaw5.BookOnce', WHERE WHAT IT READS IS OF BULK AT MOST 1048576: true; the input reads as it did. -/
def bookOnceUptoRow : OpenClaim := { program := "ytflamhndmggiaaa", sum := "593242ab4e53e076772e9dce455cdc8f02f700e3298fa5506aa1d4790bfa138e", func := "drover/droverlaw5.BookOnce", spec := "bookOnce", plainKeys := false, apart := false, narrowed := true }
def BookOnceUptoSaid : Prop := bookOnceUptoRow.holds Try.pinned (OpenSpec.upto bookOnceSpec)

/-- 'droverlaw2.WireNums', WHERE WHAT IT READS IS OF BULK AT MOST 1048576: true; the input reads as it did. -/
def wireNumsUptoRow : OpenClaim := { program := "ytflamhndmggiaaa", sum := "593242ab4e53e076772e9dce455cdc8f02f700e3298fa5506aa1d4790bfa138e", func := "drover/droverlaw2.WireNums", spec := "wireNums", plainKeys := false, apart := false, narrowed := true }
def WireNumsUptoSaid : Prop := wireNumsUptoRow.holds Try.pinned (OpenSpec.upto wireNumsSpec)

/-- 'droverlaw5.BookExact', WHERE WHAT IT READS IS OF BULK AT MOST 1048576: true; the input reads as it did. -/
def bookExactUptoRow : OpenClaim := { program := "ytflamhndmggiaaa", sum := "593242ab4e53e076772e9dce455cdc8f02f700e3298fa5506aa1d4790bfa138e", func := "drover/droverlaw5.BookExact", spec := "bookExact", plainKeys := false, apart := false, narrowed := true }
def BookExactUptoSaid : Prop := bookExactUptoRow.holds Try.pinned (OpenSpec.upto bookExactSpec)

/-- 'droverlaw12.NetKeeps', WHERE WHAT IT READS IS OF BULK AT MOST 1048576: true; the input reads as it did. -/
def netKeepsUptoRow : OpenClaim := { program := "ytflamhndmggiaaa", sum := "593242ab4e53e076772e9dce455cdc8f02f700e3298fa5506aa1d4790bfa138e", func := "drover/droverlaw12.NetKeeps", spec := "netKeeps", plainKeys := false, apart := false, narrowed := true }
def NetKeepsUptoSaid : Prop := netKeepsUptoRow.holds Try.pinned (OpenSpec.upto netKeepsSpec)

/-- 'droverlaw2.WireSizes', WHERE WHAT IT READS IS OF BULK AT MOST 1048576: true; the input reads as it did. -/
def wireSizesUptoRow : OpenClaim := { program := "ytflamhndmggiaaa", sum := "593242ab4e53e076772e9dce455cdc8f02f700e3298fa5506aa1d4790bfa138e", func := "drover/droverlaw2.WireSizes", spec := "wireSizes", plainKeys := false, apart := false, narrowed := true }
def WireSizesUptoSaid : Prop := wireSizesUptoRow.holds Try.pinned (OpenSpec.upto wireSizesSpec)

/-- 'droverlaw12.NetFull', WHERE WHAT IT READS IS OF BULK AT MOST 1048576: true; the input reads as it did. -/
def netFullUptoRow : OpenClaim := { program := "ytflamhndmggiaaa", sum := "593242ab4e53e076772e9dce455cdc8f02f700e3298fa5506aa1d4790bfa138e", func := "drover/droverlaw12.NetFull", spec := "netFull", plainKeys := false, apart := false, narrowed := true }
def NetFullUptoSaid : Prop := netFullUptoRow.holds Try.pinned (OpenSpec.upto netFullSpec)

/-- 'droverlaw12.NetExact', WHERE WHAT IT READS IS OF BULK AT MOST 1048576: true; the input reads as it did. -/
def netExactUptoRow : OpenClaim := { program := "ytflamhndmggiaaa", sum := "593242ab4e53e076772e9dce455cdc8f02f700e3298fa5506aa1d4790bfa138e", func := "drover/droverlaw12.NetExact", spec := "netExact", plainKeys := false, apart := false, narrowed := true }
def NetExactUptoSaid : Prop := netExactUptoRow.holds Try.pinned (OpenSpec.upto netExactSpec)

/-- 'droverlaw2.WirePuts', WHERE WHAT IT READS IS OF BULK AT MOST 1048576: true; the input reads as it did. -/
def wirePutsUptoRow : OpenClaim := { program := "ytflamhndmggiaaa", sum := "593242ab4e53e076772e9dce455cdc8f02f700e3298fa5506aa1d4790bfa138e", func := "drover/droverlaw2.WirePuts", spec := "wirePuts", unfollowed := true, recurses := true, plainKeys := false, apart := false, narrowed := true }
def WirePutsUptoSaid : Prop := wirePutsUptoRow.holds Try.pinned (OpenSpec.upto wirePutsSpec)

/-- 'droverlaw2.WireLists', WHERE WHAT IT READS IS OF BULK AT MOST 1048576: true; the input reads as it did. -/
def wireListsUptoRow : OpenClaim := { program := "ytflamhndmggiaaa", sum := "593242ab4e53e076772e9dce455cdc8f02f700e3298fa5506aa1d4790bfa138e", func := "drover/droverlaw2.WireLists", spec := "wireLists", unfollowed := true, recurses := true, plainKeys := false, apart := false, narrowed := true }
def WireListsUptoSaid : Prop := wireListsUptoRow.holds Try.pinned (OpenSpec.upto wireListsSpec)

/-- 'droverlaw2.WireBack', WHERE WHAT IT READS IS OF BULK AT MOST 1048576: true; the input reads as it did. -/
def wireBackUptoRow : OpenClaim := { program := "ytflamhndmggiaaa", sum := "593242ab4e53e076772e9dce455cdc8f02f700e3298fa5506aa1d4790bfa138e", func := "drover/droverlaw2.WireBack", spec := "wireBack", unfollowed := true, recurses := true, plainKeys := false, apart := false, narrowed := true }
def WireBackUptoSaid : Prop := wireBackUptoRow.holds Try.pinned (OpenSpec.upto wireBackSpec)

/-- 'droverlaw2.WireAny', WHERE WHAT IT READS IS OF BULK AT MOST 1048576: true; the input reads as it did. -/
def wireAnyUptoRow : OpenClaim := { program := "ytflamhndmggiaaa", sum := "593242ab4e53e076772e9dce455cdc8f02f700e3298fa5506aa1d4790bfa138e", func := "drover/droverlaw2.WireAny", spec := "wireAny", unfollowed := true, recurses := true, plainKeys := false, apart := false, narrowed := true }
def WireAnyUptoSaid : Prop := wireAnyUptoRow.holds Try.pinned (OpenSpec.upto wireAnySpec)

end Rows
end Go.Proofs.Ytflamhndmggiaaa
