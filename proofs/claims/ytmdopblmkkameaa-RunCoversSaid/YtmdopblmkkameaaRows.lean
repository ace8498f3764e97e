/-
  No cell of these rows narrows 'for every input' (looked for: loops, veiled, ifaces, maps, wideKeys, modest, calm, conditions, laid).
  DERIVED. THE GIVEN ROWS OF THIS SEAT. 12 by the template 'for every input the law returns true; each argument reads behind the call as it read before'; 0 by the template 'total and deterministic' (their statements: YtmdopblmkkameaaTotals.lean).
  GIVEN WITH THE SEED: the statements are not yours to turn. If you find one false, say at which input.
  Laid BY PROGRAM, IN A SANDBOX (cutbox-rows.mjs): the forced cells as the released guide's own fill.sh prints them over the translation 4644b679b035ed23… (all of the seat's roots in one cut). By AI agents, Wed Nov 11 2026. No macro, syntax, notation, axiom, sorry.
-/
import Derived.Test.YtmdopblmkkameaaChecked
import GoSem.Claim
import GoSem.ClaimJoined
import GoSem.ClaimMapViews
import Derived.JoinedTies
import Derived.KernelRfl
namespace Go.Proofs.Ytmdopblmkkameaa
/- THE CELL 'sum', in the pinned program and in every row, IS THE sha256 OF THE DUMP (.gsa) THAT YtmdopblmkkameaaProg.lean LOADS. Nothing in Lean hashes anything: it is a label: what it is worth is what the hold of that sum in a sandbox is worth. -/
noncomputable def Try.pinned : Pinned := { name := "ytmdopblmkkameaa", sum := "4644b679b035ed2382a5c1b8fedf48de5280af8ba1cb053dc811d8e78f08549f", checked := Try.checked }
namespace Rows
def none {H : Type} : Left H := { results := [], args := [] }

/-- 'layoverlaw01.RunCuts': WHATEVER THE INPUT: true; the input reads as it did. -/
def runCutsSpec : ChangeSpec := { name := "runCuts", fn := fun _ => fun
  | [d1, d2] => { results := [.lit (.bool true)], args := [d1, d2] }
  | _ => none }
def runCutsRow : OpenClaim := { program := "ytmdopblmkkameaa", sum := "4644b679b035ed2382a5c1b8fedf48de5280af8ba1cb053dc811d8e78f08549f", func := "layover/layoverlaw01.RunCuts", spec := "runCuts", unfollowed := true, recurses := true, plainKeys := false, apart := false }
def RunCutsSaid : Prop := runCutsRow.holds Try.pinned (OpenSpec.ofChange runCutsSpec)

/-- ITS FALSE NEIGHBOUR: 'it returns false'. Refute it at one input. -/
def runCutsWrong : ChangeSpec := { name := "runCuts", fn := fun _ => fun
  | [d1, d2] => { results := [.lit (.bool false)], args := [d1, d2] }
  | _ => none }
def RunCutsWrongFalsely : Prop := runCutsRow.holds Try.pinned (OpenSpec.ofChange runCutsWrong)

/-- 'layoverlaw01.RunLacks': WHATEVER THE INPUT: true; the input reads as it did. -/
def runLacksSpec : ChangeSpec := { name := "runLacks", fn := fun _ => fun
  | [d1, d2] => { results := [.lit (.bool true)], args := [d1, d2] }
  | _ => none }
def runLacksRow : OpenClaim := { program := "ytmdopblmkkameaa", sum := "4644b679b035ed2382a5c1b8fedf48de5280af8ba1cb053dc811d8e78f08549f", func := "layover/layoverlaw01.RunLacks", spec := "runLacks", unfollowed := true, recurses := true, plainKeys := false, apart := false }
def RunLacksSaid : Prop := runLacksRow.holds Try.pinned (OpenSpec.ofChange runLacksSpec)

/-- ITS FALSE NEIGHBOUR: 'it returns false'. Refute it at one input. -/
def runLacksWrong : ChangeSpec := { name := "runLacks", fn := fun _ => fun
  | [d1, d2] => { results := [.lit (.bool false)], args := [d1, d2] }
  | _ => none }
def RunLacksWrongFalsely : Prop := runLacksRow.holds Try.pinned (OpenSpec.ofChange runLacksWrong)

/-- 'layoverlaw01.RunEasier': WHATEVER THE INPUT: true; the input reads as it did. -/
def runEasierSpec : ChangeSpec := { name := "runEasier", fn := fun _ => fun
  | [d1, d2, d3, d4, d5] => { results := [.lit (.bool true)], args := [d1, d2, d3, d4, d5] }
  | _ => none }
def runEasierRow : OpenClaim := { program := "ytmdopblmkkameaa", sum := "4644b679b035ed2382a5c1b8fedf48de5280af8ba1cb053dc811d8e78f08549f", func := "layover/layoverlaw01.RunEasier", spec := "runEasier", unfollowed := true, recurses := true, plainKeys := false, apart := false }
def RunEasierSaid : Prop := runEasierRow.holds Try.pinned (OpenSpec.ofChange runEasierSpec)

/-- ITS FALSE NEIGHBOUR: 'it returns false'. Refute it at one input. -/
def runEasierWrong : ChangeSpec := { name := "runEasier", fn := fun _ => fun
  | [d1, d2, d3, d4, d5] => { results := [.lit (.bool false)], args := [d1, d2, d3, d4, d5] }
  | _ => none }
def RunEasierWrongFalsely : Prop := runEasierRow.holds Try.pinned (OpenSpec.ofChange runEasierWrong)

/-- 'layoverlaw01.RunLeft': WHATEVER THE INPUT: true; the input reads as it did. -/
def runLeftSpec : ChangeSpec := { name := "runLeft", fn := fun _ => fun
  | [d1, d2, d3, d4] => { results := [.lit (.bool true)], args := [d1, d2, d3, d4] }
  | _ => none }
def runLeftRow : OpenClaim := { program := "ytmdopblmkkameaa", sum := "4644b679b035ed2382a5c1b8fedf48de5280af8ba1cb053dc811d8e78f08549f", func := "layover/layoverlaw01.RunLeft", spec := "runLeft", unfollowed := true, recurses := true, plainKeys := false, apart := false }
def RunLeftSaid : Prop := runLeftRow.holds Try.pinned (OpenSpec.ofChange runLeftSpec)

/-- ITS FALSE NEIGHBOUR: 'it returns false'. Refute it at one input. -/
def runLeftWrong : ChangeSpec := { name := "runLeft", fn := fun _ => fun
  | [d1, d2, d3, d4] => { results := [.lit (.bool false)], args := [d1, d2, d3, d4] }
  | _ => none }
def RunLeftWrongFalsely : Prop := runLeftRow.holds Try.pinned (OpenSpec.ofChange runLeftWrong)

/-- 'layoverlaw01.RunLater': WHATEVER THE INPUT: true; the input reads as it did. -/
def runLaterSpec : ChangeSpec := { name := "runLater", fn := fun _ => fun
  | [d1, d2] => { results := [.lit (.bool true)], args := [d1, d2] }
  | _ => none }
def runLaterRow : OpenClaim := { program := "ytmdopblmkkameaa", sum := "4644b679b035ed2382a5c1b8fedf48de5280af8ba1cb053dc811d8e78f08549f", func := "layover/layoverlaw01.RunLater", spec := "runLater", unfollowed := true, recurses := true, plainKeys := false, apart := false }
def RunLaterSaid : Prop := runLaterRow.holds Try.pinned (OpenSpec.ofChange runLaterSpec)

/-- ITS FALSE NEIGHBOUR: 'it returns false'. Refute it at one input. -/
def runLaterWrong : ChangeSpec := { name := "runLater", fn := fun _ => fun
  | [d1, d2] => { results := [.lit (.bool false)], args := [d1, d2] }
  | _ => none }
def RunLaterWrongFalsely : Prop := runLaterRow.holds Try.pinned (OpenSpec.ofChange runLaterWrong)

/-- 'layoverlaw01.RunKinds': WHATEVER THE INPUT: true; the input reads as it did. -/
def runKindsSpec : ChangeSpec := { name := "runKinds", fn := fun _ => fun
  | [d] => { results := [.lit (.bool true)], args := [d] }
  | _ => none }
def runKindsRow : OpenClaim := { program := "ytmdopblmkkameaa", sum := "4644b679b035ed2382a5c1b8fedf48de5280af8ba1cb053dc811d8e78f08549f", func := "layover/layoverlaw01.RunKinds", spec := "runKinds", unfollowed := true, recurses := true, plainKeys := false, apart := false }
def RunKindsSaid : Prop := runKindsRow.holds Try.pinned (OpenSpec.ofChange runKindsSpec)

/-- ITS FALSE NEIGHBOUR: 'it returns false'. Refute it at one input. -/
def runKindsWrong : ChangeSpec := { name := "runKinds", fn := fun _ => fun
  | [d] => { results := [.lit (.bool false)], args := [d] }
  | _ => none }
def RunKindsWrongFalsely : Prop := runKindsRow.holds Try.pinned (OpenSpec.ofChange runKindsWrong)

/-- 'layoverlaw01.RunFollows': WHATEVER THE INPUT: true; the input reads as it did. -/
def runFollowsSpec : ChangeSpec := { name := "runFollows", fn := fun _ => fun
  | [d] => { results := [.lit (.bool true)], args := [d] }
  | _ => none }
def runFollowsRow : OpenClaim := { program := "ytmdopblmkkameaa", sum := "4644b679b035ed2382a5c1b8fedf48de5280af8ba1cb053dc811d8e78f08549f", func := "layover/layoverlaw01.RunFollows", spec := "runFollows", unfollowed := true, recurses := true, plainKeys := false, apart := false }
def RunFollowsSaid : Prop := runFollowsRow.holds Try.pinned (OpenSpec.ofChange runFollowsSpec)

/-- ITS FALSE NEIGHBOUR: 'it returns false'. Refute it at one input. -/
def runFollowsWrong : ChangeSpec := { name := "runFollows", fn := fun _ => fun
  | [d] => { results := [.lit (.bool false)], args := [d] }
  | _ => none }
def RunFollowsWrongFalsely : Prop := runFollowsRow.holds Try.pinned (OpenSpec.ofChange runFollowsWrong)

/-- 'layoverlaw01.RunPlays': WHATEVER THE INPUT: true; the input reads as it did. -/
def runPlaysSpec : ChangeSpec := { name := "runPlays", fn := fun _ => fun
  | [d1, d2, d3] => { results := [.lit (.bool true)], args := [d1, d2, d3] }
  | _ => none }
def runPlaysRow : OpenClaim := { program := "ytmdopblmkkameaa", sum := "4644b679b035ed2382a5c1b8fedf48de5280af8ba1cb053dc811d8e78f08549f", func := "layover/layoverlaw01.RunPlays", spec := "runPlays", unfollowed := true, recurses := true, plainKeys := false, apart := false }
def RunPlaysSaid : Prop := runPlaysRow.holds Try.pinned (OpenSpec.ofChange runPlaysSpec)

/-- ITS FALSE NEIGHBOUR: 'it returns false'. Refute it at one input. -/
def runPlaysWrong : ChangeSpec := { name := "runPlays", fn := fun _ => fun
  | [d1, d2, d3] => { results := [.lit (.bool false)], args := [d1, d2, d3] }
  | _ => none }
def RunPlaysWrongFalsely : Prop := runPlaysRow.holds Try.pinned (OpenSpec.ofChange runPlaysWrong)

/-- 'layoverlaw01.RunRoad': WHATEVER THE INPUT: true; the input reads as it did. -/
def runRoadSpec : ChangeSpec := { name := "runRoad", fn := fun _ => fun
  | [d1, d2, d3] => { results := [.lit (.bool true)], args := [d1, d2, d3] }
  | _ => none }
def runRoadRow : OpenClaim := { program := "ytmdopblmkkameaa", sum := "4644b679b035ed2382a5c1b8fedf48de5280af8ba1cb053dc811d8e78f08549f", func := "layover/layoverlaw01.RunRoad", spec := "runRoad", unfollowed := true, recurses := true, plainKeys := false, apart := false }
def RunRoadSaid : Prop := runRoadRow.holds Try.pinned (OpenSpec.ofChange runRoadSpec)

/-- ITS FALSE NEIGHBOUR: 'it returns false'. Refute it at one input. -/
def runRoadWrong : ChangeSpec := { name := "runRoad", fn := fun _ => fun
  | [d1, d2, d3] => { results := [.lit (.bool false)], args := [d1, d2, d3] }
  | _ => none }
def RunRoadWrongFalsely : Prop := runRoadRow.holds Try.pinned (OpenSpec.ofChange runRoadWrong)

/-- 'layoverlaw01.RunCovers': WHATEVER THE INPUT: true; the input reads as it did. -/
def runCoversSpec : ChangeSpec := { name := "runCovers", fn := fun _ => fun
  | [d1, d2, d3, d4] => { results := [.lit (.bool true)], args := [d1, d2, d3, d4] }
  | _ => none }
def runCoversRow : OpenClaim := { program := "ytmdopblmkkameaa", sum := "4644b679b035ed2382a5c1b8fedf48de5280af8ba1cb053dc811d8e78f08549f", func := "layover/layoverlaw01.RunCovers", spec := "runCovers", unfollowed := true, recurses := true, plainKeys := false, apart := false }
def RunCoversSaid : Prop := runCoversRow.holds Try.pinned (OpenSpec.ofChange runCoversSpec)

/-- ITS FALSE NEIGHBOUR: 'it returns false'. Refute it at one input. -/
def runCoversWrong : ChangeSpec := { name := "runCovers", fn := fun _ => fun
  | [d1, d2, d3, d4] => { results := [.lit (.bool false)], args := [d1, d2, d3, d4] }
  | _ => none }
def RunCoversWrongFalsely : Prop := runCoversRow.holds Try.pinned (OpenSpec.ofChange runCoversWrong)

/-- 'layoverlaw01.RunFewer': WHATEVER THE INPUT: true; the input reads as it did. -/
def runFewerSpec : ChangeSpec := { name := "runFewer", fn := fun _ => fun
  | [d1, d2, d3, d4] => { results := [.lit (.bool true)], args := [d1, d2, d3, d4] }
  | _ => none }
def runFewerRow : OpenClaim := { program := "ytmdopblmkkameaa", sum := "4644b679b035ed2382a5c1b8fedf48de5280af8ba1cb053dc811d8e78f08549f", func := "layover/layoverlaw01.RunFewer", spec := "runFewer", unfollowed := true, recurses := true, plainKeys := false, apart := false }
def RunFewerSaid : Prop := runFewerRow.holds Try.pinned (OpenSpec.ofChange runFewerSpec)

/-- ITS FALSE NEIGHBOUR: 'it returns false'. Refute it at one input. -/
def runFewerWrong : ChangeSpec := { name := "runFewer", fn := fun _ => fun
  | [d1, d2, d3, d4] => { results := [.lit (.bool false)], args := [d1, d2, d3, d4] }
  | _ => none }
def RunFewerWrongFalsely : Prop := runFewerRow.holds Try.pinned (OpenSpec.ofChange runFewerWrong)

/-- 'layoverlaw01.RunNames': WHATEVER THE INPUT: true; the input reads as it did. -/
def runNamesSpec : ChangeSpec := { name := "runNames", fn := fun _ => fun
  | [] => { results := [.lit (.bool true)], args := [] }
  | _ => none }
def runNamesRow : OpenClaim := { program := "ytmdopblmkkameaa", sum := "4644b679b035ed2382a5c1b8fedf48de5280af8ba1cb053dc811d8e78f08549f", func := "layover/layoverlaw01.RunNames", spec := "runNames", unfollowed := true, recurses := true, plainKeys := false, apart := false }
def RunNamesSaid : Prop := runNamesRow.holds Try.pinned (OpenSpec.ofChange runNamesSpec)

/-- ITS FALSE NEIGHBOUR: 'it returns false'. Refute it at one input. -/
def runNamesWrong : ChangeSpec := { name := "runNames", fn := fun _ => fun
  | [] => { results := [.lit (.bool false)], args := [] }
  | _ => none }
def RunNamesWrongFalsely : Prop := runNamesRow.holds Try.pinned (OpenSpec.ofChange runNamesWrong)

/- THE SECOND FORM. 'bulk': how many values and letters a reading holds, each counted each time it is reached (what is shared counts as often as it is met; a slice's spare places count too). A statement '..UptoSaid' is the law's where the arguments, and the package variables that the reading takes, are together of bulk at most 1048576: NARROWER than '..Said'. Prove '..Said' where nothing that the law and all that it calls make is longer than what came in: it says more and counts as full. Else prove '..UptoSaid'. A law counts once. -/
mutual
def uptoBulk {H : Type} : DataW H → Nat
  | .lit (.string bytes) => bytes.length + 1
  | .lit _ => 1
  | .nil => 1
  | .ptr d => uptoBulk d + 1
  | .slice elems spare => uptoBulkAll elems + uptoBulkAll spare + 1
  | .agg parts => uptoBulkAll parts + 1
  | .iface _ d => uptoBulk d + 1
  | .map entries => uptoBulkEntries entries + 1
  | .held _ => 1
def uptoBulkAll {H : Type} : List (DataW H) → Nat
  | [] => 0
  | d :: r => uptoBulk d + uptoBulkAll r
def uptoBulkEntries {H : Type} : List (Lit × DataW H) → Nat
  | [] => 0
  | x :: r => uptoBulkEntry x + uptoBulkEntries r
def uptoBulkEntry {H : Type} : Lit × DataW H → Nat
  | (.string bytes, d) => bytes.length + uptoBulk d + 1
  | (_, d) => uptoBulk d + 1
 end
def uptoSmall : (H : Type) → List (DataW H) → Bool := fun _ ds => decide (uptoBulkAll ds ≤ 1048576)
def OpenSpec.upto (s : _root_.Go.ChangeSpec) : _root_.Go.OpenSpec := { _root_.Go.OpenSpec.ofChange s with cond := some uptoSmall }

/-- 'layoverlaw01.RunCuts', WHERE WHAT IT READS IS OF BULK AT MOST 1048576: true; the input reads as it did. -/
def runCutsUptoRow : OpenClaim := { program := "ytmdopblmkkameaa", sum := "4644b679b035ed2382a5c1b8fedf48de5280af8ba1cb053dc811d8e78f08549f", func := "layover/layoverlaw01.RunCuts", spec := "runCuts", unfollowed := true, recurses := true, plainKeys := false, apart := false, narrowed := true }
def RunCutsUptoSaid : Prop := runCutsUptoRow.holds Try.pinned (OpenSpec.upto runCutsSpec)

/-- 'layoverlaw01.RunLacks', WHERE WHAT IT READS IS OF BULK AT MOST 1048576: true; the input reads as it did. -/
def runLacksUptoRow : OpenClaim := { program := "ytmdopblmkkameaa", sum := "4644b679b035ed2382a5c1b8fedf48de5280af8ba1cb053dc811d8e78f08549f", func := "layover/layoverlaw01.RunLacks", spec := "runLacks", unfollowed := true, recurses := true, plainKeys := false, apart := false, narrowed := true }
def RunLacksUptoSaid : Prop := runLacksUptoRow.holds Try.pinned (OpenSpec.upto runLacksSpec)

/-- 'layoverlaw01.RunEasier', WHERE WHAT IT READS IS OF BULK AT MOST 1048576: true; the input reads as it did. -/
def runEasierUptoRow : OpenClaim := { program := "ytmdopblmkkameaa", sum := "4644b679b035ed2382a5c1b8fedf48de5280af8ba1cb053dc811d8e78f08549f", func := "layover/layoverlaw01.RunEasier", spec := "runEasier", unfollowed := true, recurses := true, plainKeys := false, apart := false, narrowed := true }
def RunEasierUptoSaid : Prop := runEasierUptoRow.holds Try.pinned (OpenSpec.upto runEasierSpec)

/-- 'layoverlaw01.RunLeft', WHERE WHAT IT READS IS OF BULK AT MOST 1048576: true; the input reads as it did. -/
def runLeftUptoRow : OpenClaim := { program := "ytmdopblmkkameaa", sum := "4644b679b035ed2382a5c1b8fedf48de5280af8ba1cb053dc811d8e78f08549f", func := "layover/layoverlaw01.RunLeft", spec := "runLeft", unfollowed := true, recurses := true, plainKeys := false, apart := false, narrowed := true }
def RunLeftUptoSaid : Prop := runLeftUptoRow.holds Try.pinned (OpenSpec.upto runLeftSpec)

/-- 'layoverlaw01.RunLater', WHERE WHAT IT READS IS OF BULK AT MOST 1048576: true; the input reads as it did. -/
def runLaterUptoRow : OpenClaim := { program := "ytmdopblmkkameaa", sum := "4644b679b035ed2382a5c1b8fedf48de5280af8ba1cb053dc811d8e78f08549f", func := "layover/layoverlaw01.RunLater", spec := "runLater", unfollowed := true, recurses := true, plainKeys := false, apart := false, narrowed := true }
def RunLaterUptoSaid : Prop := runLaterUptoRow.holds Try.pinned (OpenSpec.upto runLaterSpec)

/-- 'layoverlaw01.RunKinds', WHERE WHAT IT READS IS OF BULK AT MOST 1048576: true; the input reads as it did. -/
def runKindsUptoRow : OpenClaim := { program := "ytmdopblmkkameaa", sum := "4644b679b035ed2382a5c1b8fedf48de5280af8ba1cb053dc811d8e78f08549f", func := "layover/layoverlaw01.RunKinds", spec := "runKinds", unfollowed := true, recurses := true, plainKeys := false, apart := false, narrowed := true }
def RunKindsUptoSaid : Prop := runKindsUptoRow.holds Try.pinned (OpenSpec.upto runKindsSpec)

/-- 'layoverlaw01.RunFollows', WHERE WHAT IT READS IS OF BULK AT MOST 1048576: true; the input reads as it did. -/
def runFollowsUptoRow : OpenClaim := { program := "ytmdopblmkkameaa", sum := "4644b679b035ed2382a5c1b8fedf48de5280af8ba1cb053dc811d8e78f08549f", func := "layover/layoverlaw01.RunFollows", spec := "runFollows", unfollowed := true, recurses := true, plainKeys := false, apart := false, narrowed := true }
def RunFollowsUptoSaid : Prop := runFollowsUptoRow.holds Try.pinned (OpenSpec.upto runFollowsSpec)

/-- 'layoverlaw01.RunPlays', WHERE WHAT IT READS IS OF BULK AT MOST 1048576: true; the input reads as it did. -/
def runPlaysUptoRow : OpenClaim := { program := "ytmdopblmkkameaa", sum := "4644b679b035ed2382a5c1b8fedf48de5280af8ba1cb053dc811d8e78f08549f", func := "layover/layoverlaw01.RunPlays", spec := "runPlays", unfollowed := true, recurses := true, plainKeys := false, apart := false, narrowed := true }
def RunPlaysUptoSaid : Prop := runPlaysUptoRow.holds Try.pinned (OpenSpec.upto runPlaysSpec)

/-- 'layoverlaw01.RunRoad', WHERE WHAT IT READS IS OF BULK AT MOST 1048576: true; the input reads as it did. -/
def runRoadUptoRow : OpenClaim := { program := "ytmdopblmkkameaa", sum := "4644b679b035ed2382a5c1b8fedf48de5280af8ba1cb053dc811d8e78f08549f", func := "layover/layoverlaw01.RunRoad", spec := "runRoad", unfollowed := true, recurses := true, plainKeys := false, apart := false, narrowed := true }
def RunRoadUptoSaid : Prop := runRoadUptoRow.holds Try.pinned (OpenSpec.upto runRoadSpec)

/-- 'layoverlaw01.RunCovers', WHERE WHAT IT READS IS OF BULK AT MOST 1048576: true; the input reads as it did. -/
def runCoversUptoRow : OpenClaim := { program := "ytmdopblmkkameaa", sum := "4644b679b035ed2382a5c1b8fedf48de5280af8ba1cb053dc811d8e78f08549f", func := "layover/layoverlaw01.RunCovers", spec := "runCovers", unfollowed := true, recurses := true, plainKeys := false, apart := false, narrowed := true }
def RunCoversUptoSaid : Prop := runCoversUptoRow.holds Try.pinned (OpenSpec.upto runCoversSpec)

/-- 'layoverlaw01.RunFewer', WHERE WHAT IT READS IS OF BULK AT MOST 1048576: true; the input reads as it did. -/
def runFewerUptoRow : OpenClaim := { program := "ytmdopblmkkameaa", sum := "4644b679b035ed2382a5c1b8fedf48de5280af8ba1cb053dc811d8e78f08549f", func := "layover/layoverlaw01.RunFewer", spec := "runFewer", unfollowed := true, recurses := true, plainKeys := false, apart := false, narrowed := true }
def RunFewerUptoSaid : Prop := runFewerUptoRow.holds Try.pinned (OpenSpec.upto runFewerSpec)

/-- 'layoverlaw01.RunNames', WHERE WHAT IT READS IS OF BULK AT MOST 1048576: true; the input reads as it did. -/
def runNamesUptoRow : OpenClaim := { program := "ytmdopblmkkameaa", sum := "4644b679b035ed2382a5c1b8fedf48de5280af8ba1cb053dc811d8e78f08549f", func := "layover/layoverlaw01.RunNames", spec := "runNames", unfollowed := true, recurses := true, plainKeys := false, apart := false, narrowed := true }
def RunNamesUptoSaid : Prop := runNamesUptoRow.holds Try.pinned (OpenSpec.upto runNamesSpec)

end Rows
end Go.Proofs.Ytmdopblmkkameaa
