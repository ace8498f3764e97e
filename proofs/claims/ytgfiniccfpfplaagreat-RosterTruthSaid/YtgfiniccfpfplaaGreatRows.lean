/-
  No cell of these rows narrows 'for every input' (looked for: loops, veiled, ifaces, maps, wideKeys, modest, calm, conditions, laid).
  DERIVED. THE GIVEN ROWS OF THIS SEAT. 11 by the template 'for every input the law returns true; each argument reads behind the call as it read before'; 0 by the template 'total and deterministic' (their statements: YtgfiniccfpfplaaGreatTotals.lean).
  GIVEN WITH THE SEED: the statements are not yours to turn. If you find one false, say at which input.
  Laid BY PROGRAM, IN A SANDBOX (cutbox-rows.mjs): the forced cells as the released guide's own fill.sh prints them over the translation ea324dd282f07519… (all of the seat's roots in one cut). By AI agents, Wed Nov 11 2026. No macro, syntax, notation, axiom, sorry.
-/
import Derived.Test.YtgfiniccfpfplaaGreatChecked
import GoSem.Claim
import GoSem.ClaimJoined
import GoSem.ClaimMapViews
import Derived.JoinedTies
import Derived.KernelRfl
namespace Go.Proofs.YtgfiniccfpfplaaGreat
/- THE CELL 'sum', in the pinned program and in every row, IS THE sha256 OF THE DUMP (.gsa) THAT YtgfiniccfpfplaaGreatProg.lean LOADS. Nothing in Lean hashes anything: it is a label: what it is worth is what the hold of that sum in a sandbox is worth. -/
noncomputable def Tryz.pinned : Pinned := { name := "ytgfiniccfpfplaagreat", sum := "ea324dd282f075193061063931314e1b75de8acf95d2981829f1b351e602eb4f", checked := Tryz.checked }
namespace Rows
def none {H : Type} : Left H := { results := [], args := [] }

/-- 'layoverlaw03.RosterBreaks': WHATEVER THE INPUT: true; the input reads as it did. -/
def rosterBreaksSpec : ChangeSpec := { name := "rosterBreaks", fn := fun _ => fun
  | [d1, d2, d3] => { results := [.lit (.bool true)], args := [d1, d2, d3] }
  | _ => none }
def rosterBreaksRow : OpenClaim := { program := "ytgfiniccfpfplaagreat", sum := "ea324dd282f075193061063931314e1b75de8acf95d2981829f1b351e602eb4f", func := "layover/layoverlaw03.RosterBreaks", spec := "rosterBreaks", unfollowed := true, recurses := true, plainKeys := false, apart := false }
def RosterBreaksSaid : Prop := rosterBreaksRow.holds Tryz.pinned (OpenSpec.ofChange rosterBreaksSpec)

/-- ITS FALSE NEIGHBOUR: 'it returns false'. Refute it at one input. -/
def rosterBreaksWrong : ChangeSpec := { name := "rosterBreaks", fn := fun _ => fun
  | [d1, d2, d3] => { results := [.lit (.bool false)], args := [d1, d2, d3] }
  | _ => none }
def RosterBreaksWrongFalsely : Prop := rosterBreaksRow.holds Tryz.pinned (OpenSpec.ofChange rosterBreaksWrong)

/-- 'layoverlaw03.RosterBests': WHATEVER THE INPUT: true; the input reads as it did. -/
def rosterBestsSpec : ChangeSpec := { name := "rosterBests", fn := fun _ => fun
  | [d] => { results := [.lit (.bool true)], args := [d] }
  | _ => none }
def rosterBestsRow : OpenClaim := { program := "ytgfiniccfpfplaagreat", sum := "ea324dd282f075193061063931314e1b75de8acf95d2981829f1b351e602eb4f", func := "layover/layoverlaw03.RosterBests", spec := "rosterBests", unfollowed := true, recurses := true, plainKeys := false, apart := false }
def RosterBestsSaid : Prop := rosterBestsRow.holds Tryz.pinned (OpenSpec.ofChange rosterBestsSpec)

/-- ITS FALSE NEIGHBOUR: 'it returns false'. Refute it at one input. -/
def rosterBestsWrong : ChangeSpec := { name := "rosterBests", fn := fun _ => fun
  | [d] => { results := [.lit (.bool false)], args := [d] }
  | _ => none }
def RosterBestsWrongFalsely : Prop := rosterBestsRow.holds Tryz.pinned (OpenSpec.ofChange rosterBestsWrong)

/-- 'layoverlaw03.RosterSpares': WHATEVER THE INPUT: true; the input reads as it did. -/
def rosterSparesSpec : ChangeSpec := { name := "rosterSpares", fn := fun _ => fun
  | [d1, d2, d3] => { results := [.lit (.bool true)], args := [d1, d2, d3] }
  | _ => none }
def rosterSparesRow : OpenClaim := { program := "ytgfiniccfpfplaagreat", sum := "ea324dd282f075193061063931314e1b75de8acf95d2981829f1b351e602eb4f", func := "layover/layoverlaw03.RosterSpares", spec := "rosterSpares", unfollowed := true, recurses := true, plainKeys := false, apart := false }
def RosterSparesSaid : Prop := rosterSparesRow.holds Tryz.pinned (OpenSpec.ofChange rosterSparesSpec)

/-- ITS FALSE NEIGHBOUR: 'it returns false'. Refute it at one input. -/
def rosterSparesWrong : ChangeSpec := { name := "rosterSpares", fn := fun _ => fun
  | [d1, d2, d3] => { results := [.lit (.bool false)], args := [d1, d2, d3] }
  | _ => none }
def RosterSparesWrongFalsely : Prop := rosterSparesRow.holds Tryz.pinned (OpenSpec.ofChange rosterSparesWrong)

/-- 'layoverlaw03.RosterProves': WHATEVER THE INPUT: true; the input reads as it did. -/
def rosterProvesSpec : ChangeSpec := { name := "rosterProves", fn := fun _ => fun
  | [d1, d2, d3] => { results := [.lit (.bool true)], args := [d1, d2, d3] }
  | _ => none }
def rosterProvesRow : OpenClaim := { program := "ytgfiniccfpfplaagreat", sum := "ea324dd282f075193061063931314e1b75de8acf95d2981829f1b351e602eb4f", func := "layover/layoverlaw03.RosterProves", spec := "rosterProves", unfollowed := true, recurses := true, plainKeys := false, apart := false }
def RosterProvesSaid : Prop := rosterProvesRow.holds Tryz.pinned (OpenSpec.ofChange rosterProvesSpec)

/-- ITS FALSE NEIGHBOUR: 'it returns false'. Refute it at one input. -/
def rosterProvesWrong : ChangeSpec := { name := "rosterProves", fn := fun _ => fun
  | [d1, d2, d3] => { results := [.lit (.bool false)], args := [d1, d2, d3] }
  | _ => none }
def RosterProvesWrongFalsely : Prop := rosterProvesRow.holds Tryz.pinned (OpenSpec.ofChange rosterProvesWrong)

/-- 'layoverlaw03.RosterSenior': WHATEVER THE INPUT: true; the input reads as it did. -/
def rosterSeniorSpec : ChangeSpec := { name := "rosterSenior", fn := fun _ => fun
  | [d1, d2] => { results := [.lit (.bool true)], args := [d1, d2] }
  | _ => none }
def rosterSeniorRow : OpenClaim := { program := "ytgfiniccfpfplaagreat", sum := "ea324dd282f075193061063931314e1b75de8acf95d2981829f1b351e602eb4f", func := "layover/layoverlaw03.RosterSenior", spec := "rosterSenior", unfollowed := true, recurses := true, plainKeys := false, apart := false }
def RosterSeniorSaid : Prop := rosterSeniorRow.holds Tryz.pinned (OpenSpec.ofChange rosterSeniorSpec)

/-- ITS FALSE NEIGHBOUR: 'it returns false'. Refute it at one input. -/
def rosterSeniorWrong : ChangeSpec := { name := "rosterSenior", fn := fun _ => fun
  | [d1, d2] => { results := [.lit (.bool false)], args := [d1, d2] }
  | _ => none }
def RosterSeniorWrongFalsely : Prop := rosterSeniorRow.holds Tryz.pinned (OpenSpec.ofChange rosterSeniorWrong)

/-- 'layoverlaw03.RosterMosts': WHATEVER THE INPUT: true; the input reads as it did. -/
def rosterMostsSpec : ChangeSpec := { name := "rosterMosts", fn := fun _ => fun
  | [d] => { results := [.lit (.bool true)], args := [d] }
  | _ => none }
def rosterMostsRow : OpenClaim := { program := "ytgfiniccfpfplaagreat", sum := "ea324dd282f075193061063931314e1b75de8acf95d2981829f1b351e602eb4f", func := "layover/layoverlaw03.RosterMosts", spec := "rosterMosts", unfollowed := true, recurses := true, plainKeys := false, apart := false }
def RosterMostsSaid : Prop := rosterMostsRow.holds Tryz.pinned (OpenSpec.ofChange rosterMostsSpec)

/-- ITS FALSE NEIGHBOUR: 'it returns false'. Refute it at one input. -/
def rosterMostsWrong : ChangeSpec := { name := "rosterMosts", fn := fun _ => fun
  | [d] => { results := [.lit (.bool false)], args := [d] }
  | _ => none }
def RosterMostsWrongFalsely : Prop := rosterMostsRow.holds Tryz.pinned (OpenSpec.ofChange rosterMostsWrong)

/-- 'layoverlaw03.RosterTruth': WHATEVER THE INPUT: true; the input reads as it did. -/
def rosterTruthSpec : ChangeSpec := { name := "rosterTruth", fn := fun _ => fun
  | [d1, d2, d3, d4] => { results := [.lit (.bool true)], args := [d1, d2, d3, d4] }
  | _ => none }
def rosterTruthRow : OpenClaim := { program := "ytgfiniccfpfplaagreat", sum := "ea324dd282f075193061063931314e1b75de8acf95d2981829f1b351e602eb4f", func := "layover/layoverlaw03.RosterTruth", spec := "rosterTruth", unfollowed := true, recurses := true, plainKeys := false, apart := false }
def RosterTruthSaid : Prop := rosterTruthRow.holds Tryz.pinned (OpenSpec.ofChange rosterTruthSpec)

/-- ITS FALSE NEIGHBOUR: 'it returns false'. Refute it at one input. -/
def rosterTruthWrong : ChangeSpec := { name := "rosterTruth", fn := fun _ => fun
  | [d1, d2, d3, d4] => { results := [.lit (.bool false)], args := [d1, d2, d3, d4] }
  | _ => none }
def RosterTruthWrongFalsely : Prop := rosterTruthRow.holds Tryz.pinned (OpenSpec.ofChange rosterTruthWrong)

/-- 'layoverlaw03.RosterMost': WHATEVER THE INPUT: true; the input reads as it did. -/
def rosterMostSpec : ChangeSpec := { name := "rosterMost", fn := fun _ => fun
  | [d1, d2] => { results := [.lit (.bool true)], args := [d1, d2] }
  | _ => none }
def rosterMostRow : OpenClaim := { program := "ytgfiniccfpfplaagreat", sum := "ea324dd282f075193061063931314e1b75de8acf95d2981829f1b351e602eb4f", func := "layover/layoverlaw03.RosterMost", spec := "rosterMost", unfollowed := true, recurses := true, plainKeys := false, apart := false }
def RosterMostSaid : Prop := rosterMostRow.holds Tryz.pinned (OpenSpec.ofChange rosterMostSpec)

/-- ITS FALSE NEIGHBOUR: 'it returns false'. Refute it at one input. -/
def rosterMostWrong : ChangeSpec := { name := "rosterMost", fn := fun _ => fun
  | [d1, d2] => { results := [.lit (.bool false)], args := [d1, d2] }
  | _ => none }
def RosterMostWrongFalsely : Prop := rosterMostRow.holds Tryz.pinned (OpenSpec.ofChange rosterMostWrong)

/-- 'layoverlaw03.RosterLess': WHATEVER THE INPUT: true; the input reads as it did. -/
def rosterLessSpec : ChangeSpec := { name := "rosterLess", fn := fun _ => fun
  | [d1, d2, d3] => { results := [.lit (.bool true)], args := [d1, d2, d3] }
  | _ => none }
def rosterLessRow : OpenClaim := { program := "ytgfiniccfpfplaagreat", sum := "ea324dd282f075193061063931314e1b75de8acf95d2981829f1b351e602eb4f", func := "layover/layoverlaw03.RosterLess", spec := "rosterLess", unfollowed := true, recurses := true, plainKeys := false, apart := false }
def RosterLessSaid : Prop := rosterLessRow.holds Tryz.pinned (OpenSpec.ofChange rosterLessSpec)

/-- ITS FALSE NEIGHBOUR: 'it returns false'. Refute it at one input. -/
def rosterLessWrong : ChangeSpec := { name := "rosterLess", fn := fun _ => fun
  | [d1, d2, d3] => { results := [.lit (.bool false)], args := [d1, d2, d3] }
  | _ => none }
def RosterLessWrongFalsely : Prop := rosterLessRow.holds Tryz.pinned (OpenSpec.ofChange rosterLessWrong)

/-- 'layoverlaw03.RosterSteps': WHATEVER THE INPUT: true; the input reads as it did. -/
def rosterStepsSpec : ChangeSpec := { name := "rosterSteps", fn := fun _ => fun
  | [d1, d2, d3, d4] => { results := [.lit (.bool true)], args := [d1, d2, d3, d4] }
  | _ => none }
def rosterStepsRow : OpenClaim := { program := "ytgfiniccfpfplaagreat", sum := "ea324dd282f075193061063931314e1b75de8acf95d2981829f1b351e602eb4f", func := "layover/layoverlaw03.RosterSteps", spec := "rosterSteps", unfollowed := true, recurses := true, plainKeys := false, apart := false }
def RosterStepsSaid : Prop := rosterStepsRow.holds Tryz.pinned (OpenSpec.ofChange rosterStepsSpec)

/-- ITS FALSE NEIGHBOUR: 'it returns false'. Refute it at one input. -/
def rosterStepsWrong : ChangeSpec := { name := "rosterSteps", fn := fun _ => fun
  | [d1, d2, d3, d4] => { results := [.lit (.bool false)], args := [d1, d2, d3, d4] }
  | _ => none }
def RosterStepsWrongFalsely : Prop := rosterStepsRow.holds Tryz.pinned (OpenSpec.ofChange rosterStepsWrong)

/-- 'layoverlaw03.RosterEasier': WHATEVER THE INPUT: true; the input reads as it did. -/
def rosterEasierSpec : ChangeSpec := { name := "rosterEasier", fn := fun _ => fun
  | [d1, d2, d3, d4, d5, d6] => { results := [.lit (.bool true)], args := [d1, d2, d3, d4, d5, d6] }
  | _ => none }
def rosterEasierRow : OpenClaim := { program := "ytgfiniccfpfplaagreat", sum := "ea324dd282f075193061063931314e1b75de8acf95d2981829f1b351e602eb4f", func := "layover/layoverlaw03.RosterEasier", spec := "rosterEasier", unfollowed := true, recurses := true, plainKeys := false, apart := false }
def RosterEasierSaid : Prop := rosterEasierRow.holds Tryz.pinned (OpenSpec.ofChange rosterEasierSpec)

/-- ITS FALSE NEIGHBOUR: 'it returns false'. Refute it at one input. -/
def rosterEasierWrong : ChangeSpec := { name := "rosterEasier", fn := fun _ => fun
  | [d1, d2, d3, d4, d5, d6] => { results := [.lit (.bool false)], args := [d1, d2, d3, d4, d5, d6] }
  | _ => none }
def RosterEasierWrongFalsely : Prop := rosterEasierRow.holds Tryz.pinned (OpenSpec.ofChange rosterEasierWrong)

/- THE SECOND FORM. 'bulk': how many values and letters a reading holds, each counted each time it is reached (what is shared counts as often as it is met; a slice's spare places count too). A statement '..UptoSaid' is the law's where the arguments, and the package variables that the reading takes, are together of bulk at most 1048576: NARROWER than '..Said'. Prove '..Said' where nothing that the law and all that it calls make is longer than what came in: it says more and counts as full. Else prove '..UptoSaid'. A law counts once. -/
mutual
def uptoBulk {H : Type} : DataW H → Nat
  | .lit (.string bytes) => bytes.length + 1
  | .lit _ => 1
  | .nil => 1
  | .ptr d => uptoBulk d + 1
  | .slice elems spare => uptoBulkAll elems + uptoBulkAll spare + 1
  | .agg parts => uptoBulkAll parts + 1
  | .iface _ d => uptoBulk d + 1
  | .map entries => uptoBulkEntries entries + 1
  | .held _ => 1
def uptoBulkAll {H : Type} : List (DataW H) → Nat
  | [] => 0
  | d :: r => uptoBulk d + uptoBulkAll r
def uptoBulkEntries {H : Type} : List (Lit × DataW H) → Nat
  | [] => 0
  | x :: r => uptoBulkEntry x + uptoBulkEntries r
def uptoBulkEntry {H : Type} : Lit × DataW H → Nat
  | (.string bytes, d) => bytes.length + uptoBulk d + 1
  | (_, d) => uptoBulk d + 1
 end
def uptoSmall : (H : Type) → List (DataW H) → Bool := fun _ ds => decide (uptoBulkAll ds ≤ 1048576)
def OpenSpec.upto (s : _root_.Go.ChangeSpec) : _root_.Go.OpenSpec := { _root_.Go.OpenSpec.ofChange s with cond := some uptoSmall }

/-- 'layoverlaw03.RosterBreaks', WHERE WHAT IT READS IS OF BULK AT MOST 1048576: true; the input reads as it did. -/
def rosterBreaksUptoRow : OpenClaim := { program := "ytgfiniccfpfplaagreat", sum := "ea324dd282f075193061063931314e1b75de8acf95d2981829f1b351e602eb4f", func := "layover/layoverlaw03.RosterBreaks", spec := "rosterBreaks", unfollowed := true, recurses := true, plainKeys := false, apart := false, narrowed := true }
def RosterBreaksUptoSaid : Prop := rosterBreaksUptoRow.holds Tryz.pinned (OpenSpec.upto rosterBreaksSpec)

/-- 'layoverlaw03.RosterBests', WHERE WHAT IT READS IS OF BULK AT MOST 1048576: true; the input reads as it did. -/
def rosterBestsUptoRow : OpenClaim := { program := "ytgfiniccfpfplaagreat", sum := "ea324dd282f075193061063931314e1b75de8acf95d2981829f1b351e602eb4f", func := "layover/layoverlaw03.RosterBests", spec := "rosterBests", unfollowed := true, recurses := true, plainKeys := false, apart := false, narrowed := true }
def RosterBestsUptoSaid : Prop := rosterBestsUptoRow.holds Tryz.pinned (OpenSpec.upto rosterBestsSpec)

/-- 'layoverlaw03.RosterSpares', WHERE WHAT IT READS IS OF BULK AT MOST 1048576: true; the input reads as it did. -/
def rosterSparesUptoRow : OpenClaim := { program := "ytgfiniccfpfplaagreat", sum := "ea324dd282f075193061063931314e1b75de8acf95d2981829f1b351e602eb4f", func := "layover/layoverlaw03.RosterSpares", spec := "rosterSpares", unfollowed := true, recurses := true, plainKeys := false, apart := false, narrowed := true }
def RosterSparesUptoSaid : Prop := rosterSparesUptoRow.holds Tryz.pinned (OpenSpec.upto rosterSparesSpec)

/-- 'layoverlaw03.RosterProves', WHERE WHAT IT READS IS OF BULK AT MOST 1048576: true; the input reads as it did. -/
def rosterProvesUptoRow : OpenClaim := { program := "ytgfiniccfpfplaagreat", sum := "ea324dd282f075193061063931314e1b75de8acf95d2981829f1b351e602eb4f", func := "layover/layoverlaw03.RosterProves", spec := "rosterProves", unfollowed := true, recurses := true, plainKeys := false, apart := false, narrowed := true }
def RosterProvesUptoSaid : Prop := rosterProvesUptoRow.holds Tryz.pinned (OpenSpec.upto rosterProvesSpec)

/-- 'layoverlaw03.RosterSenior', WHERE WHAT IT READS IS OF BULK AT MOST 1048576: true; the input reads as it did. -/
def rosterSeniorUptoRow : OpenClaim := { program := "ytgfiniccfpfplaagreat", sum := "ea324dd282f075193061063931314e1b75de8acf95d2981829f1b351e602eb4f", func := "layover/layoverlaw03.RosterSenior", spec := "rosterSenior", unfollowed := true, recurses := true, plainKeys := false, apart := false, narrowed := true }
def RosterSeniorUptoSaid : Prop := rosterSeniorUptoRow.holds Tryz.pinned (OpenSpec.upto rosterSeniorSpec)

/-- 'layoverlaw03.RosterMosts', WHERE WHAT IT READS IS OF BULK AT MOST 1048576: true; the input reads as it did. -/
def rosterMostsUptoRow : OpenClaim := { program := "ytgfiniccfpfplaagreat", sum := "ea324dd282f075193061063931314e1b75de8acf95d2981829f1b351e602eb4f", func := "layover/layoverlaw03.RosterMosts", spec := "rosterMosts", unfollowed := true, recurses := true, plainKeys := false, apart := false, narrowed := true }
def RosterMostsUptoSaid : Prop := rosterMostsUptoRow.holds Tryz.pinned (OpenSpec.upto rosterMostsSpec)

/-- 'layoverlaw03.RosterTruth', WHERE WHAT IT READS IS OF BULK AT MOST 1048576: true; the input reads as it did. -/
def rosterTruthUptoRow : OpenClaim := { program := "ytgfiniccfpfplaagreat", sum := "ea324dd282f075193061063931314e1b75de8acf95d2981829f1b351e602eb4f", func := "layover/layoverlaw03.RosterTruth", spec := "rosterTruth", unfollowed := true, recurses := true, plainKeys := false, apart := false, narrowed := true }
def RosterTruthUptoSaid : Prop := rosterTruthUptoRow.holds Tryz.pinned (OpenSpec.upto rosterTruthSpec)

/-- 'layoverlaw03.RosterMost', WHERE WHAT IT READS IS OF BULK AT MOST 1048576: true; the input reads as it did. -/
def rosterMostUptoRow : OpenClaim := { program := "ytgfiniccfpfplaagreat", sum := "ea324dd282f075193061063931314e1b75de8acf95d2981829f1b351e602eb4f", func := "layover/layoverlaw03.RosterMost", spec := "rosterMost", unfollowed := true, recurses := true, plainKeys := false, apart := false, narrowed := true }
def RosterMostUptoSaid : Prop := rosterMostUptoRow.holds Tryz.pinned (OpenSpec.upto rosterMostSpec)

/-- 'layoverlaw03.RosterLess', WHERE WHAT IT READS IS OF BULK AT MOST 1048576: true; the input reads as it did. -/
def rosterLessUptoRow : OpenClaim := { program := "ytgfiniccfpfplaagreat", sum := "ea324dd282f075193061063931314e1b75de8acf95d2981829f1b351e602eb4f", func := "layover/layoverlaw03.RosterLess", spec := "rosterLess", unfollowed := true, recurses := true, plainKeys := false, apart := false, narrowed := true }
def RosterLessUptoSaid : Prop := rosterLessUptoRow.holds Tryz.pinned (OpenSpec.upto rosterLessSpec)

/-- 'layoverlaw03.RosterSteps', WHERE WHAT IT READS IS OF BULK AT MOST 1048576: true; the input reads as it did. -/
def rosterStepsUptoRow : OpenClaim := { program := "ytgfiniccfpfplaagreat", sum := "ea324dd282f075193061063931314e1b75de8acf95d2981829f1b351e602eb4f", func := "layover/layoverlaw03.RosterSteps", spec := "rosterSteps", unfollowed := true, recurses := true, plainKeys := false, apart := false, narrowed := true }
def RosterStepsUptoSaid : Prop := rosterStepsUptoRow.holds Tryz.pinned (OpenSpec.upto rosterStepsSpec)

/-- 'layoverlaw03.RosterEasier', WHERE WHAT IT READS IS OF BULK AT MOST 1048576: true; the input reads as it did. -/
def rosterEasierUptoRow : OpenClaim := { program := "ytgfiniccfpfplaagreat", sum := "ea324dd282f075193061063931314e1b75de8acf95d2981829f1b351e602eb4f", func := "layover/layoverlaw03.RosterEasier", spec := "rosterEasier", unfollowed := true, recurses := true, plainKeys := false, apart := false, narrowed := true }
def RosterEasierUptoSaid : Prop := rosterEasierUptoRow.holds Tryz.pinned (OpenSpec.upto rosterEasierSpec)

end Rows
end Go.Proofs.YtgfiniccfpfplaaGreat
