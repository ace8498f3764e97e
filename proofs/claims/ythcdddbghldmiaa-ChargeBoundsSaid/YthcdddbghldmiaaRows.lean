/-
  No cell of these rows narrows 'for every input' (looked for: loops, veiled, ifaces, maps, wideKeys, modest, calm, conditions, laid).
  DERIVED. THE GIVEN ROWS OF THIS SEAT. 13 by the template 'for every input the law returns true; each argument reads behind the call as it read before'; 0 by the template 'total and deterministic' (their statements: YthcdddbghldmiaaTotals.lean).
  GIVEN WITH THE SEED: the statements are not yours to turn. If you find one false, say at which input.
  Laid BY PROGRAM, IN A SANDBOX (cutbox-rows.mjs): the forced cells as the released guide's own fill.sh prints them over the translation 01c2711162d964f8… (all of the seat's roots in one cut). By AI agents, Wed Nov 11 2026. No macro, syntax, notation, axiom, sorry.
-/
import Derived.Test.YthcdddbghldmiaaChecked
import GoSem.Claim
import GoSem.ClaimJoined
import GoSem.ClaimMapViews
import Derived.JoinedTies
import Derived.KernelRfl
namespace Go.Proofs.Ythcdddbghldmiaa
/- THE CELL 'sum', in the pinned program and in every row, IS THE sha256 OF THE DUMP (.gsa) THAT YthcdddbghldmiaaProg.lean LOADS. Nothing in Lean hashes anything: it is a label: what it is worth is what the hold of that sum in a sandbox is worth. -/
noncomputable def Try.pinned : Pinned := { name := "ythcdddbghldmiaa", sum := "01c2711162d964f854314eec5a854b0cba10cd04c343448db5135ad9df88f62a", checked := Try.checked }
namespace Rows
def none {H : Type} : Left H := { results := [], args := [] }

/-- 'layoverlaw05.ChargeBests': WHATEVER THE INPUT: true; the input reads as it did. -/
def chargeBestsSpec : ChangeSpec := { name := "chargeBests", fn := fun _ => fun
  | [d] => { results := [.lit (.bool true)], args := [d] }
  | _ => none }
def chargeBestsRow : OpenClaim := { program := "ythcdddbghldmiaa", sum := "01c2711162d964f854314eec5a854b0cba10cd04c343448db5135ad9df88f62a", func := "layover/layoverlaw05.ChargeBests", spec := "chargeBests", unfollowed := true, recurses := true, plainKeys := false, apart := false }
def ChargeBestsSaid : Prop := chargeBestsRow.holds Try.pinned (OpenSpec.ofChange chargeBestsSpec)

/-- ITS FALSE NEIGHBOUR: 'it returns false'. Refute it at one input. -/
def chargeBestsWrong : ChangeSpec := { name := "chargeBests", fn := fun _ => fun
  | [d] => { results := [.lit (.bool false)], args := [d] }
  | _ => none }
def ChargeBestsWrongFalsely : Prop := chargeBestsRow.holds Try.pinned (OpenSpec.ofChange chargeBestsWrong)

/-- 'layoverlaw05.ChargeEasier': WHATEVER THE INPUT: true; the input reads as it did. -/
def chargeEasierSpec : ChangeSpec := { name := "chargeEasier", fn := fun _ => fun
  | [d1, d2, d3, d4] => { results := [.lit (.bool true)], args := [d1, d2, d3, d4] }
  | _ => none }
def chargeEasierRow : OpenClaim := { program := "ythcdddbghldmiaa", sum := "01c2711162d964f854314eec5a854b0cba10cd04c343448db5135ad9df88f62a", func := "layover/layoverlaw05.ChargeEasier", spec := "chargeEasier", unfollowed := true, recurses := true, plainKeys := false, apart := false }
def ChargeEasierSaid : Prop := chargeEasierRow.holds Try.pinned (OpenSpec.ofChange chargeEasierSpec)

/-- ITS FALSE NEIGHBOUR: 'it returns false'. Refute it at one input. -/
def chargeEasierWrong : ChangeSpec := { name := "chargeEasier", fn := fun _ => fun
  | [d1, d2, d3, d4] => { results := [.lit (.bool false)], args := [d1, d2, d3, d4] }
  | _ => none }
def ChargeEasierWrongFalsely : Prop := chargeEasierRow.holds Try.pinned (OpenSpec.ofChange chargeEasierWrong)

/-- 'layoverlaw05.ChargeLess': WHATEVER THE INPUT: true; the input reads as it did. -/
def chargeLessSpec : ChangeSpec := { name := "chargeLess", fn := fun _ => fun
  | [d1, d2] => { results := [.lit (.bool true)], args := [d1, d2] }
  | _ => none }
def chargeLessRow : OpenClaim := { program := "ythcdddbghldmiaa", sum := "01c2711162d964f854314eec5a854b0cba10cd04c343448db5135ad9df88f62a", func := "layover/layoverlaw05.ChargeLess", spec := "chargeLess", unfollowed := true, recurses := true, plainKeys := false, apart := false }
def ChargeLessSaid : Prop := chargeLessRow.holds Try.pinned (OpenSpec.ofChange chargeLessSpec)

/-- ITS FALSE NEIGHBOUR: 'it returns false'. Refute it at one input. -/
def chargeLessWrong : ChangeSpec := { name := "chargeLess", fn := fun _ => fun
  | [d1, d2] => { results := [.lit (.bool false)], args := [d1, d2] }
  | _ => none }
def ChargeLessWrongFalsely : Prop := chargeLessRow.holds Try.pinned (OpenSpec.ofChange chargeLessWrong)

/-- 'layoverlaw05.ChargeNights': WHATEVER THE INPUT: true; the input reads as it did. -/
def chargeNightsSpec : ChangeSpec := { name := "chargeNights", fn := fun _ => fun
  | [d1, d2, d3] => { results := [.lit (.bool true)], args := [d1, d2, d3] }
  | _ => none }
def chargeNightsRow : OpenClaim := { program := "ythcdddbghldmiaa", sum := "01c2711162d964f854314eec5a854b0cba10cd04c343448db5135ad9df88f62a", func := "layover/layoverlaw05.ChargeNights", spec := "chargeNights", unfollowed := true, recurses := true, plainKeys := false, apart := false }
def ChargeNightsSaid : Prop := chargeNightsRow.holds Try.pinned (OpenSpec.ofChange chargeNightsSpec)

/-- ITS FALSE NEIGHBOUR: 'it returns false'. Refute it at one input. -/
def chargeNightsWrong : ChangeSpec := { name := "chargeNights", fn := fun _ => fun
  | [d1, d2, d3] => { results := [.lit (.bool false)], args := [d1, d2, d3] }
  | _ => none }
def ChargeNightsWrongFalsely : Prop := chargeNightsRow.holds Try.pinned (OpenSpec.ofChange chargeNightsWrong)

/-- 'layoverlaw05.ChargeTimes': WHATEVER THE INPUT: true; the input reads as it did. -/
def chargeTimesSpec : ChangeSpec := { name := "chargeTimes", fn := fun _ => fun
  | [d1, d2, d3] => { results := [.lit (.bool true)], args := [d1, d2, d3] }
  | _ => none }
def chargeTimesRow : OpenClaim := { program := "ythcdddbghldmiaa", sum := "01c2711162d964f854314eec5a854b0cba10cd04c343448db5135ad9df88f62a", func := "layover/layoverlaw05.ChargeTimes", spec := "chargeTimes", unfollowed := true, recurses := true, plainKeys := false, apart := false }
def ChargeTimesSaid : Prop := chargeTimesRow.holds Try.pinned (OpenSpec.ofChange chargeTimesSpec)

/-- ITS FALSE NEIGHBOUR: 'it returns false'. Refute it at one input. -/
def chargeTimesWrong : ChangeSpec := { name := "chargeTimes", fn := fun _ => fun
  | [d1, d2, d3] => { results := [.lit (.bool false)], args := [d1, d2, d3] }
  | _ => none }
def ChargeTimesWrongFalsely : Prop := chargeTimesRow.holds Try.pinned (OpenSpec.ofChange chargeTimesWrong)

/-- 'layoverlaw05.ChargeNeeds': WHATEVER THE INPUT: true; the input reads as it did. -/
def chargeNeedsSpec : ChangeSpec := { name := "chargeNeeds", fn := fun _ => fun
  | [d] => { results := [.lit (.bool true)], args := [d] }
  | _ => none }
def chargeNeedsRow : OpenClaim := { program := "ythcdddbghldmiaa", sum := "01c2711162d964f854314eec5a854b0cba10cd04c343448db5135ad9df88f62a", func := "layover/layoverlaw05.ChargeNeeds", spec := "chargeNeeds", unfollowed := true, recurses := true, plainKeys := false, apart := false }
def ChargeNeedsSaid : Prop := chargeNeedsRow.holds Try.pinned (OpenSpec.ofChange chargeNeedsSpec)

/-- ITS FALSE NEIGHBOUR: 'it returns false'. Refute it at one input. -/
def chargeNeedsWrong : ChangeSpec := { name := "chargeNeeds", fn := fun _ => fun
  | [d] => { results := [.lit (.bool false)], args := [d] }
  | _ => none }
def ChargeNeedsWrongFalsely : Prop := chargeNeedsRow.holds Try.pinned (OpenSpec.ofChange chargeNeedsWrong)

/-- 'layoverlaw05.ChargePlays': WHATEVER THE INPUT: true; the input reads as it did. -/
def chargePlaysSpec : ChangeSpec := { name := "chargePlays", fn := fun _ => fun
  | [d1, d2, d3] => { results := [.lit (.bool true)], args := [d1, d2, d3] }
  | _ => none }
def chargePlaysRow : OpenClaim := { program := "ythcdddbghldmiaa", sum := "01c2711162d964f854314eec5a854b0cba10cd04c343448db5135ad9df88f62a", func := "layover/layoverlaw05.ChargePlays", spec := "chargePlays", unfollowed := true, recurses := true, plainKeys := false, apart := false }
def ChargePlaysSaid : Prop := chargePlaysRow.holds Try.pinned (OpenSpec.ofChange chargePlaysSpec)

/-- ITS FALSE NEIGHBOUR: 'it returns false'. Refute it at one input. -/
def chargePlaysWrong : ChangeSpec := { name := "chargePlays", fn := fun _ => fun
  | [d1, d2, d3] => { results := [.lit (.bool false)], args := [d1, d2, d3] }
  | _ => none }
def ChargePlaysWrongFalsely : Prop := chargePlaysRow.holds Try.pinned (OpenSpec.ofChange chargePlaysWrong)

/-- 'layoverlaw05.ChargeBounds': WHATEVER THE INPUT: true; the input reads as it did. -/
def chargeBoundsSpec : ChangeSpec := { name := "chargeBounds", fn := fun _ => fun
  | [d1, d2, d3] => { results := [.lit (.bool true)], args := [d1, d2, d3] }
  | _ => none }
def chargeBoundsRow : OpenClaim := { program := "ythcdddbghldmiaa", sum := "01c2711162d964f854314eec5a854b0cba10cd04c343448db5135ad9df88f62a", func := "layover/layoverlaw05.ChargeBounds", spec := "chargeBounds", unfollowed := true, recurses := true, plainKeys := false, apart := false }
def ChargeBoundsSaid : Prop := chargeBoundsRow.holds Try.pinned (OpenSpec.ofChange chargeBoundsSpec)

/-- ITS FALSE NEIGHBOUR: 'it returns false'. Refute it at one input. -/
def chargeBoundsWrong : ChangeSpec := { name := "chargeBounds", fn := fun _ => fun
  | [d1, d2, d3] => { results := [.lit (.bool false)], args := [d1, d2, d3] }
  | _ => none }
def ChargeBoundsWrongFalsely : Prop := chargeBoundsRow.holds Try.pinned (OpenSpec.ofChange chargeBoundsWrong)

/-- 'layoverlaw05.ChargeTruth': WHATEVER THE INPUT: true; the input reads as it did. -/
def chargeTruthSpec : ChangeSpec := { name := "chargeTruth", fn := fun _ => fun
  | [d1, d2, d3] => { results := [.lit (.bool true)], args := [d1, d2, d3] }
  | _ => none }
def chargeTruthRow : OpenClaim := { program := "ythcdddbghldmiaa", sum := "01c2711162d964f854314eec5a854b0cba10cd04c343448db5135ad9df88f62a", func := "layover/layoverlaw05.ChargeTruth", spec := "chargeTruth", unfollowed := true, recurses := true, plainKeys := false, apart := false }
def ChargeTruthSaid : Prop := chargeTruthRow.holds Try.pinned (OpenSpec.ofChange chargeTruthSpec)

/-- ITS FALSE NEIGHBOUR: 'it returns false'. Refute it at one input. -/
def chargeTruthWrong : ChangeSpec := { name := "chargeTruth", fn := fun _ => fun
  | [d1, d2, d3] => { results := [.lit (.bool false)], args := [d1, d2, d3] }
  | _ => none }
def ChargeTruthWrongFalsely : Prop := chargeTruthRow.holds Try.pinned (OpenSpec.ofChange chargeTruthWrong)

/-- 'layoverlaw05.ChargeCheapest': WHATEVER THE INPUT: true; the input reads as it did. -/
def chargeCheapestSpec : ChangeSpec := { name := "chargeCheapest", fn := fun _ => fun
  | [d1, d2, d3, d4] => { results := [.lit (.bool true)], args := [d1, d2, d3, d4] }
  | _ => none }
def chargeCheapestRow : OpenClaim := { program := "ythcdddbghldmiaa", sum := "01c2711162d964f854314eec5a854b0cba10cd04c343448db5135ad9df88f62a", func := "layover/layoverlaw05.ChargeCheapest", spec := "chargeCheapest", unfollowed := true, recurses := true, plainKeys := false, apart := false }
def ChargeCheapestSaid : Prop := chargeCheapestRow.holds Try.pinned (OpenSpec.ofChange chargeCheapestSpec)

/-- ITS FALSE NEIGHBOUR: 'it returns false'. Refute it at one input. -/
def chargeCheapestWrong : ChangeSpec := { name := "chargeCheapest", fn := fun _ => fun
  | [d1, d2, d3, d4] => { results := [.lit (.bool false)], args := [d1, d2, d3, d4] }
  | _ => none }
def ChargeCheapestWrongFalsely : Prop := chargeCheapestRow.holds Try.pinned (OpenSpec.ofChange chargeCheapestWrong)

/-- 'layoverlaw05.ChargeLacks': WHATEVER THE INPUT: true; the input reads as it did. -/
def chargeLacksSpec : ChangeSpec := { name := "chargeLacks", fn := fun _ => fun
  | [d] => { results := [.lit (.bool true)], args := [d] }
  | _ => none }
def chargeLacksRow : OpenClaim := { program := "ythcdddbghldmiaa", sum := "01c2711162d964f854314eec5a854b0cba10cd04c343448db5135ad9df88f62a", func := "layover/layoverlaw05.ChargeLacks", spec := "chargeLacks", unfollowed := true, recurses := true, plainKeys := false, apart := false }
def ChargeLacksSaid : Prop := chargeLacksRow.holds Try.pinned (OpenSpec.ofChange chargeLacksSpec)

/-- ITS FALSE NEIGHBOUR: 'it returns false'. Refute it at one input. -/
def chargeLacksWrong : ChangeSpec := { name := "chargeLacks", fn := fun _ => fun
  | [d] => { results := [.lit (.bool false)], args := [d] }
  | _ => none }
def ChargeLacksWrongFalsely : Prop := chargeLacksRow.holds Try.pinned (OpenSpec.ofChange chargeLacksWrong)

/-- 'layoverlaw05.ChargeWhy': WHATEVER THE INPUT: true; the input reads as it did. -/
def chargeWhySpec : ChangeSpec := { name := "chargeWhy", fn := fun _ => fun
  | [d1, d2, d3] => { results := [.lit (.bool true)], args := [d1, d2, d3] }
  | _ => none }
def chargeWhyRow : OpenClaim := { program := "ythcdddbghldmiaa", sum := "01c2711162d964f854314eec5a854b0cba10cd04c343448db5135ad9df88f62a", func := "layover/layoverlaw05.ChargeWhy", spec := "chargeWhy", unfollowed := true, recurses := true, plainKeys := false, apart := false }
def ChargeWhySaid : Prop := chargeWhyRow.holds Try.pinned (OpenSpec.ofChange chargeWhySpec)

/-- ITS FALSE NEIGHBOUR: 'it returns false'. Refute it at one input. -/
def chargeWhyWrong : ChangeSpec := { name := "chargeWhy", fn := fun _ => fun
  | [d1, d2, d3] => { results := [.lit (.bool false)], args := [d1, d2, d3] }
  | _ => none }
def ChargeWhyWrongFalsely : Prop := chargeWhyRow.holds Try.pinned (OpenSpec.ofChange chargeWhyWrong)

/-- 'layoverlaw05.ChargeNames': WHATEVER THE INPUT: true; the input reads as it did. -/
def chargeNamesSpec : ChangeSpec := { name := "chargeNames", fn := fun _ => fun
  | [] => { results := [.lit (.bool true)], args := [] }
  | _ => none }
def chargeNamesRow : OpenClaim := { program := "ythcdddbghldmiaa", sum := "01c2711162d964f854314eec5a854b0cba10cd04c343448db5135ad9df88f62a", func := "layover/layoverlaw05.ChargeNames", spec := "chargeNames", unfollowed := true, recurses := true, plainKeys := false, apart := false }
def ChargeNamesSaid : Prop := chargeNamesRow.holds Try.pinned (OpenSpec.ofChange chargeNamesSpec)

/-- ITS FALSE NEIGHBOUR: 'it returns false'. Refute it at one input. -/
def chargeNamesWrong : ChangeSpec := { name := "chargeNames", fn := fun _ => fun
  | [] => { results := [.lit (.bool false)], args := [] }
  | _ => none }
def ChargeNamesWrongFalsely : Prop := chargeNamesRow.holds Try.pinned (OpenSpec.ofChange chargeNamesWrong)

/- THE SECOND FORM. 'bulk': how many values and letters a reading holds, each counted each time it is reached (what is shared counts as often as it is met; a slice's spare places count too). A statement '..UptoSaid' is the law's where the arguments, and the package variables that the reading takes, are together of bulk at most 1048576: NARROWER than '..Said'. Prove '..Said' where nothing that the law and all that it calls make is longer than what came in: it says more and counts as full. Else prove '..UptoSaid'. A law counts once. -/
mutual
def uptoBulk {H : Type} : DataW H → Nat
  | .lit (.string bytes) => bytes.length + 1
  | .lit _ => 1
  | .nil => 1
  | .ptr d => uptoBulk d + 1
  | .slice elems spare => uptoBulkAll elems + uptoBulkAll spare + 1
  | .agg parts => uptoBulkAll parts + 1
  | .iface _ d => uptoBulk d + 1
  | .map entries => uptoBulkEntries entries + 1
  | .held _ => 1
def uptoBulkAll {H : Type} : List (DataW H) → Nat
  | [] => 0
  | d :: r => uptoBulk d + uptoBulkAll r
def uptoBulkEntries {H : Type} : List (Lit × DataW H) → Nat
  | [] => 0
  | x :: r => uptoBulkEntry x + uptoBulkEntries r
def uptoBulkEntry {H : Type} : Lit × DataW H → Nat
  | (.string bytes, d) => bytes.length + uptoBulk d + 1
  | (_, d) => uptoBulk d + 1
 end
def uptoSmall : (H : Type) → List (DataW H) → Bool := fun _ ds => decide (uptoBulkAll ds ≤ 1048576)
def OpenSpec.upto (s : _root_.Go.ChangeSpec) : _root_.Go.OpenSpec := { _root_.Go.OpenSpec.ofChange s with cond := some uptoSmall }

/-- 'layoverlaw05.ChargeBests', WHERE WHAT IT READS IS OF BULK AT MOST 1048576: true; the input reads as it did. -/
def chargeBestsUptoRow : OpenClaim := { program := "ythcdddbghldmiaa", sum := "01c2711162d964f854314eec5a854b0cba10cd04c343448db5135ad9df88f62a", func := "layover/layoverlaw05.ChargeBests", spec := "chargeBests", unfollowed := true, recurses := true, plainKeys := false, apart := false, narrowed := true }
def ChargeBestsUptoSaid : Prop := chargeBestsUptoRow.holds Try.pinned (OpenSpec.upto chargeBestsSpec)

/-- 'layoverlaw05.ChargeEasier', WHERE WHAT IT READS IS OF BULK AT MOST 1048576: true; the input reads as it did. -/
def chargeEasierUptoRow : OpenClaim := { program := "ythcdddbghldmiaa", sum := "01c2711162d964f854314eec5a854b0cba10cd04c343448db5135ad9df88f62a", func := "layover/layoverlaw05.ChargeEasier", spec := "chargeEasier", unfollowed := true, recurses := true, plainKeys := false, apart := false, narrowed := true }
def ChargeEasierUptoSaid : Prop := chargeEasierUptoRow.holds Try.pinned (OpenSpec.upto chargeEasierSpec)

/-- 'layoverlaw05.ChargeLess', WHERE WHAT IT READS IS OF BULK AT MOST 1048576: true; the input reads as it did. -/
def chargeLessUptoRow : OpenClaim := { program := "ythcdddbghldmiaa", sum := "01c2711162d964f854314eec5a854b0cba10cd04c343448db5135ad9df88f62a", func := "layover/layoverlaw05.ChargeLess", spec := "chargeLess", unfollowed := true, recurses := true, plainKeys := false, apart := false, narrowed := true }
def ChargeLessUptoSaid : Prop := chargeLessUptoRow.holds Try.pinned (OpenSpec.upto chargeLessSpec)

/-- 'layoverlaw05.ChargeNights', WHERE WHAT IT READS IS OF BULK AT MOST 1048576: true; the input reads as it did. -/
def chargeNightsUptoRow : OpenClaim := { program := "ythcdddbghldmiaa", sum := "01c2711162d964f854314eec5a854b0cba10cd04c343448db5135ad9df88f62a", func := "layover/layoverlaw05.ChargeNights", spec := "chargeNights", unfollowed := true, recurses := true, plainKeys := false, apart := false, narrowed := true }
def ChargeNightsUptoSaid : Prop := chargeNightsUptoRow.holds Try.pinned (OpenSpec.upto chargeNightsSpec)

/-- 'layoverlaw05.ChargeTimes', WHERE WHAT IT READS IS OF BULK AT MOST 1048576: true; the input reads as it did. -/
def chargeTimesUptoRow : OpenClaim := { program := "ythcdddbghldmiaa", sum := "01c2711162d964f854314eec5a854b0cba10cd04c343448db5135ad9df88f62a", func := "layover/layoverlaw05.ChargeTimes", spec := "chargeTimes", unfollowed := true, recurses := true, plainKeys := false, apart := false, narrowed := true }
def ChargeTimesUptoSaid : Prop := chargeTimesUptoRow.holds Try.pinned (OpenSpec.upto chargeTimesSpec)

/-- 'layoverlaw05.ChargeNeeds', WHERE WHAT IT READS IS OF BULK AT MOST 1048576: true; the input reads as it did. -/
def chargeNeedsUptoRow : OpenClaim := { program := "ythcdddbghldmiaa", sum := "01c2711162d964f854314eec5a854b0cba10cd04c343448db5135ad9df88f62a", func := "layover/layoverlaw05.ChargeNeeds", spec := "chargeNeeds", unfollowed := true, recurses := true, plainKeys := false, apart := false, narrowed := true }
def ChargeNeedsUptoSaid : Prop := chargeNeedsUptoRow.holds Try.pinned (OpenSpec.upto chargeNeedsSpec)

/-- 'layoverlaw05.ChargePlays', WHERE WHAT IT READS IS OF BULK AT MOST 1048576: true; the input reads as it did. -/
def chargePlaysUptoRow : OpenClaim := { program := "ythcdddbghldmiaa", sum := "01c2711162d964f854314eec5a854b0cba10cd04c343448db5135ad9df88f62a", func := "layover/layoverlaw05.ChargePlays", spec := "chargePlays", unfollowed := true, recurses := true, plainKeys := false, apart := false, narrowed := true }
def ChargePlaysUptoSaid : Prop := chargePlaysUptoRow.holds Try.pinned (OpenSpec.upto chargePlaysSpec)

/-- 'layoverlaw05.ChargeBounds', WHERE WHAT IT READS IS OF BULK AT MOST 1048576: true; the input reads as it did. -/
def chargeBoundsUptoRow : OpenClaim := { program := "ythcdddbghldmiaa", sum := "01c2711162d964f854314eec5a854b0cba10cd04c343448db5135ad9df88f62a", func := "layover/layoverlaw05.ChargeBounds", spec := "chargeBounds", unfollowed := true, recurses := true, plainKeys := false, apart := false, narrowed := true }
def ChargeBoundsUptoSaid : Prop := chargeBoundsUptoRow.holds Try.pinned (OpenSpec.upto chargeBoundsSpec)

/-- 'layoverlaw05.ChargeTruth', WHERE WHAT IT READS IS OF BULK AT MOST 1048576: true; the input reads as it did. -/
def chargeTruthUptoRow : OpenClaim := { program := "ythcdddbghldmiaa", sum := "01c2711162d964f854314eec5a854b0cba10cd04c343448db5135ad9df88f62a", func := "layover/layoverlaw05.ChargeTruth", spec := "chargeTruth", unfollowed := true, recurses := true, plainKeys := false, apart := false, narrowed := true }
def ChargeTruthUptoSaid : Prop := chargeTruthUptoRow.holds Try.pinned (OpenSpec.upto chargeTruthSpec)

/-- 'layoverlaw05.ChargeCheapest', WHERE WHAT IT READS IS OF BULK AT MOST 1048576: true; the input reads as it did. -/
def chargeCheapestUptoRow : OpenClaim := { program := "ythcdddbghldmiaa", sum := "01c2711162d964f854314eec5a854b0cba10cd04c343448db5135ad9df88f62a", func := "layover/layoverlaw05.ChargeCheapest", spec := "chargeCheapest", unfollowed := true, recurses := true, plainKeys := false, apart := false, narrowed := true }
def ChargeCheapestUptoSaid : Prop := chargeCheapestUptoRow.holds Try.pinned (OpenSpec.upto chargeCheapestSpec)

/-- 'layoverlaw05.ChargeLacks', WHERE WHAT IT READS IS OF BULK AT MOST 1048576: true; the input reads as it did. -/
def chargeLacksUptoRow : OpenClaim := { program := "ythcdddbghldmiaa", sum := "01c2711162d964f854314eec5a854b0cba10cd04c343448db5135ad9df88f62a", func := "layover/layoverlaw05.ChargeLacks", spec := "chargeLacks", unfollowed := true, recurses := true, plainKeys := false, apart := false, narrowed := true }
def ChargeLacksUptoSaid : Prop := chargeLacksUptoRow.holds Try.pinned (OpenSpec.upto chargeLacksSpec)

/-- 'layoverlaw05.ChargeWhy', WHERE WHAT IT READS IS OF BULK AT MOST 1048576: true; the input reads as it did. -/
def chargeWhyUptoRow : OpenClaim := { program := "ythcdddbghldmiaa", sum := "01c2711162d964f854314eec5a854b0cba10cd04c343448db5135ad9df88f62a", func := "layover/layoverlaw05.ChargeWhy", spec := "chargeWhy", unfollowed := true, recurses := true, plainKeys := false, apart := false, narrowed := true }
def ChargeWhyUptoSaid : Prop := chargeWhyUptoRow.holds Try.pinned (OpenSpec.upto chargeWhySpec)

/-- 'layoverlaw05.ChargeNames', WHERE WHAT IT READS IS OF BULK AT MOST 1048576: true; the input reads as it did. -/
def chargeNamesUptoRow : OpenClaim := { program := "ythcdddbghldmiaa", sum := "01c2711162d964f854314eec5a854b0cba10cd04c343448db5135ad9df88f62a", func := "layover/layoverlaw05.ChargeNames", spec := "chargeNames", unfollowed := true, recurses := true, plainKeys := false, apart := false, narrowed := true }
def ChargeNamesUptoSaid : Prop := chargeNamesUptoRow.holds Try.pinned (OpenSpec.upto chargeNamesSpec)

end Rows
end Go.Proofs.Ythcdddbghldmiaa
