/-
  No cell of these rows narrows 'for every input' (looked for: loops, veiled, ifaces, maps, wideKeys, modest, calm, conditions, laid).
  DERIVED. THE GIVEN ROWS OF THIS SEAT. 3 by the template 'for every input the law returns true; each argument reads behind the call as it read before'; 0 by the template 'total and deterministic' (their statements: YtgfiniccfpfplaaTotals.lean).
  GIVEN WITH THE SEED: the statements are not yours to turn. If you find one false, say at which input.
  Laid BY PROGRAM, IN A SANDBOX (cutbox-rows.mjs): the forced cells as the released guide's own fill.sh prints them over the translation 807ae291747248c7… (all of the seat's roots in one cut). By AI agents, Wed Nov 11 2026. No macro, syntax, notation, axiom, sorry.
-/
import Derived.Test.YtgfiniccfpfplaaChecked
import GoSem.Claim
import GoSem.ClaimJoined
import GoSem.ClaimMapViews
import Derived.JoinedTies
import Derived.KernelRfl
namespace Go.Proofs.Ytgfiniccfpfplaa
/- THE CELL 'sum', in the pinned program and in every row, IS THE sha256 OF THE DUMP (.gsa) THAT YtgfiniccfpfplaaProg.lean LOADS. Nothing in Lean hashes anything: it is a label: what it is worth is what the hold of that sum in a sandbox is worth. -/
noncomputable def Try.pinned : Pinned := { name := "ytgfiniccfpfplaa", sum := "807ae291747248c7d985fb1b7551c1b7501d9619ea43e46a21a15b80956d9750", checked := Try.checked }
namespace Rows
def none {H : Type} : Left H := { results := [], args := [] }

/-- 'layoverlaw03.RosterDays': WHATEVER THE INPUT: true; the input reads as it did. -/
def rosterDaysSpec : ChangeSpec := { name := "rosterDays", fn := fun _ => fun
  | [d1, d2, d3, d4] => { results := [.lit (.bool true)], args := [d1, d2, d3, d4] }
  | _ => none }
def rosterDaysRow : OpenClaim := { program := "ytgfiniccfpfplaa", sum := "807ae291747248c7d985fb1b7551c1b7501d9619ea43e46a21a15b80956d9750", func := "layover/layoverlaw03.RosterDays", spec := "rosterDays", unfollowed := true, recurses := true, plainKeys := false, apart := false }
def RosterDaysSaid : Prop := rosterDaysRow.holds Try.pinned (OpenSpec.ofChange rosterDaysSpec)

/-- ITS FALSE NEIGHBOUR: 'it returns false'. Refute it at one input. -/
def rosterDaysWrong : ChangeSpec := { name := "rosterDays", fn := fun _ => fun
  | [d1, d2, d3, d4] => { results := [.lit (.bool false)], args := [d1, d2, d3, d4] }
  | _ => none }
def RosterDaysWrongFalsely : Prop := rosterDaysRow.holds Try.pinned (OpenSpec.ofChange rosterDaysWrong)

/-- 'layoverlaw03.RosterNames': WHATEVER THE INPUT: true; the input reads as it did. -/
def rosterNamesSpec : ChangeSpec := { name := "rosterNames", fn := fun _ => fun
  | [] => { results := [.lit (.bool true)], args := [] }
  | _ => none }
def rosterNamesRow : OpenClaim := { program := "ytgfiniccfpfplaa", sum := "807ae291747248c7d985fb1b7551c1b7501d9619ea43e46a21a15b80956d9750", func := "layover/layoverlaw03.RosterNames", spec := "rosterNames", unfollowed := true, recurses := true, plainKeys := false, apart := false }
def RosterNamesSaid : Prop := rosterNamesRow.holds Try.pinned (OpenSpec.ofChange rosterNamesSpec)

/-- ITS FALSE NEIGHBOUR: 'it returns false'. Refute it at one input. -/
def rosterNamesWrong : ChangeSpec := { name := "rosterNames", fn := fun _ => fun
  | [] => { results := [.lit (.bool false)], args := [] }
  | _ => none }
def RosterNamesWrongFalsely : Prop := rosterNamesRow.holds Try.pinned (OpenSpec.ofChange rosterNamesWrong)

/-- 'layoverlaw03.RosterOrder': WHATEVER THE INPUT: true; the input reads as it did. -/
def rosterOrderSpec : ChangeSpec := { name := "rosterOrder", fn := fun _ => fun
  | [d1, d2, d3] => { results := [.lit (.bool true)], args := [d1, d2, d3] }
  | _ => none }
def rosterOrderRow : OpenClaim := { program := "ytgfiniccfpfplaa", sum := "807ae291747248c7d985fb1b7551c1b7501d9619ea43e46a21a15b80956d9750", func := "layover/layoverlaw03.RosterOrder", spec := "rosterOrder", unfollowed := true, recurses := true, plainKeys := false, apart := false }
def RosterOrderSaid : Prop := rosterOrderRow.holds Try.pinned (OpenSpec.ofChange rosterOrderSpec)

/-- ITS FALSE NEIGHBOUR: 'it returns false'. Refute it at one input. -/
def rosterOrderWrong : ChangeSpec := { name := "rosterOrder", fn := fun _ => fun
  | [d1, d2, d3] => { results := [.lit (.bool false)], args := [d1, d2, d3] }
  | _ => none }
def RosterOrderWrongFalsely : Prop := rosterOrderRow.holds Try.pinned (OpenSpec.ofChange rosterOrderWrong)

/- THE SECOND FORM. 'bulk': how many values and letters a reading holds, each counted each time it is reached (what is shared counts as often as it is met; a slice's spare places count too). A statement '..UptoSaid' is the law's where the arguments, and the package variables that the reading takes, are together of bulk at most 1048576: NARROWER than '..Said'. Prove '..Said' where nothing that the law and all that it calls make is longer than what came in: it says more and counts as full. Else prove '..UptoSaid'. A law counts once. -/
mutual
def uptoBulk {H : Type} : DataW H → Nat
  | .lit (.string bytes) => bytes.length + 1
  | .lit _ => 1
  | .nil => 1
  | .ptr d => uptoBulk d + 1
  | .slice elems spare => uptoBulkAll elems + uptoBulkAll spare + 1
  | .agg parts => uptoBulkAll parts + 1
  | .iface _ d => uptoBulk d + 1
  | .map entries => uptoBulkEntries entries + 1
  | .held _ => 1
def uptoBulkAll {H : Type} : List (DataW H) → Nat
  | [] => 0
  | d :: r => uptoBulk d + uptoBulkAll r
def uptoBulkEntries {H : Type} : List (Lit × DataW H) → Nat
  | [] => 0
  | x :: r => uptoBulkEntry x + uptoBulkEntries r
def uptoBulkEntry {H : Type} : Lit × DataW H → Nat
  | (.string bytes, d) => bytes.length + uptoBulk d + 1
  | (_, d) => uptoBulk d + 1
 end
def uptoSmall : (H : Type) → List (DataW H) → Bool := fun _ ds => decide (uptoBulkAll ds ≤ 1048576)
def OpenSpec.upto (s : _root_.Go.ChangeSpec) : _root_.Go.OpenSpec := { _root_.Go.OpenSpec.ofChange s with cond := some uptoSmall }

/-- 'layoverlaw03.RosterDays', WHERE WHAT IT READS IS OF BULK AT MOST 1048576: true; the input reads as it did. -/
def rosterDaysUptoRow : OpenClaim := { program := "ytgfiniccfpfplaa", sum := "807ae291747248c7d985fb1b7551c1b7501d9619ea43e46a21a15b80956d9750", func := "layover/layoverlaw03.RosterDays", spec := "rosterDays", unfollowed := true, recurses := true, plainKeys := false, apart := false, narrowed := true }
def RosterDaysUptoSaid : Prop := rosterDaysUptoRow.holds Try.pinned (OpenSpec.upto rosterDaysSpec)

/-- 'layoverlaw03.RosterNames', WHERE WHAT IT READS IS OF BULK AT MOST 1048576: true; the input reads as it did. -/
def rosterNamesUptoRow : OpenClaim := { program := "ytgfiniccfpfplaa", sum := "807ae291747248c7d985fb1b7551c1b7501d9619ea43e46a21a15b80956d9750", func := "layover/layoverlaw03.RosterNames", spec := "rosterNames", unfollowed := true, recurses := true, plainKeys := false, apart := false, narrowed := true }
def RosterNamesUptoSaid : Prop := rosterNamesUptoRow.holds Try.pinned (OpenSpec.upto rosterNamesSpec)

/-- 'layoverlaw03.RosterOrder', WHERE WHAT IT READS IS OF BULK AT MOST 1048576: true; the input reads as it did. -/
def rosterOrderUptoRow : OpenClaim := { program := "ytgfiniccfpfplaa", sum := "807ae291747248c7d985fb1b7551c1b7501d9619ea43e46a21a15b80956d9750", func := "layover/layoverlaw03.RosterOrder", spec := "rosterOrder", unfollowed := true, recurses := true, plainKeys := false, apart := false, narrowed := true }
def RosterOrderUptoSaid : Prop := rosterOrderUptoRow.holds Try.pinned (OpenSpec.upto rosterOrderSpec)

end Rows
end Go.Proofs.Ytgfiniccfpfplaa
