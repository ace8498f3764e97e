/-
  No cell of these rows narrows 'for every input' (looked for: loops, veiled, ifaces, maps, wideKeys, modest, calm, conditions, laid).
  DERIVED. THE GIVEN ROWS OF THIS SEAT. 9 by the template 'for every input the law returns true; each argument reads behind the call as it read before'; 0 by the template 'total and deterministic' (their statements: YtffgfojabcbegaaTotals.lean).
  GIVEN WITH THE SEED: the statements are not yours to turn. If you find one false, say at which input.
  Laid BY PROGRAM, IN A SANDBOX (cutbox-rows.mjs): the forced cells as the released guide's own fill.sh prints them over the translation 875c8c948ebe81d7… (all of the seat's roots in one cut). By AI agents, Wed Nov 11 2026. No macro, syntax, notation, axiom, sorry.
-/
import Derived.Test.YtffgfojabcbegaaChecked
import GoSem.Claim
import GoSem.ClaimJoined
import GoSem.ClaimMapViews
import Derived.JoinedTies
import Derived.KernelRfl
namespace Go.Proofs.Ytffgfojabcbegaa
/- THE CELL 'sum', in the pinned program and in every row, IS THE sha256 OF THE DUMP (.gsa) THAT YtffgfojabcbegaaProg.lean LOADS. Nothing in Lean hashes anything: it is a label: what it is worth is what the hold of that sum in a sandbox is worth. -/
noncomputable def Try.pinned : Pinned := { name := "ytffgfojabcbegaa", sum := "875c8c948ebe81d7a90b9fd38c568a614436b44035db02b19fa980486e69d70e", checked := Try.checked }
namespace Rows
def none {H : Type} : Left H := { results := [], args := [] }

/-- 'layoverlaw11.SheetEncodes': WHATEVER THE INPUT: true; the input reads as it did. -/
def sheetEncodesSpec : ChangeSpec := { name := "sheetEncodes", fn := fun _ => fun
  | [d] => { results := [.lit (.bool true)], args := [d] }
  | _ => none }
def sheetEncodesRow : OpenClaim := { program := "ytffgfojabcbegaa", sum := "875c8c948ebe81d7a90b9fd38c568a614436b44035db02b19fa980486e69d70e", func := "layover/layoverlaw11.SheetEncodes", spec := "sheetEncodes", unfollowed := true, recurses := true, plainKeys := false, apart := false }
def SheetEncodesSaid : Prop := sheetEncodesRow.holds Try.pinned (OpenSpec.ofChange sheetEncodesSpec)

/-- ITS FALSE NEIGHBOUR: 'it returns false'. Refute it at one input. -/
def sheetEncodesWrong : ChangeSpec := { name := "sheetEncodes", fn := fun _ => fun
  | [d] => { results := [.lit (.bool false)], args := [d] }
  | _ => none }
def SheetEncodesWrongFalsely : Prop := sheetEncodesRow.holds Try.pinned (OpenSpec.ofChange sheetEncodesWrong)

/-- 'layoverlaw11.SheetLacks': WHATEVER THE INPUT: true; the input reads as it did. -/
def sheetLacksSpec : ChangeSpec := { name := "sheetLacks", fn := fun _ => fun
  | [d] => { results := [.lit (.bool true)], args := [d] }
  | _ => none }
def sheetLacksRow : OpenClaim := { program := "ytffgfojabcbegaa", sum := "875c8c948ebe81d7a90b9fd38c568a614436b44035db02b19fa980486e69d70e", func := "layover/layoverlaw11.SheetLacks", spec := "sheetLacks", unfollowed := true, recurses := true, plainKeys := false, apart := false }
def SheetLacksSaid : Prop := sheetLacksRow.holds Try.pinned (OpenSpec.ofChange sheetLacksSpec)

/-- ITS FALSE NEIGHBOUR: 'it returns false'. Refute it at one input. -/
def sheetLacksWrong : ChangeSpec := { name := "sheetLacks", fn := fun _ => fun
  | [d] => { results := [.lit (.bool false)], args := [d] }
  | _ => none }
def SheetLacksWrongFalsely : Prop := sheetLacksRow.holds Try.pinned (OpenSpec.ofChange sheetLacksWrong)

/-- 'layoverlaw11.SheetSpans': WHATEVER THE INPUT: true; the input reads as it did. -/
def sheetSpansSpec : ChangeSpec := { name := "sheetSpans", fn := fun _ => fun
  | [d1, d2] => { results := [.lit (.bool true)], args := [d1, d2] }
  | _ => none }
def sheetSpansRow : OpenClaim := { program := "ytffgfojabcbegaa", sum := "875c8c948ebe81d7a90b9fd38c568a614436b44035db02b19fa980486e69d70e", func := "layover/layoverlaw11.SheetSpans", spec := "sheetSpans", unfollowed := true, recurses := true, plainKeys := false, apart := false }
def SheetSpansSaid : Prop := sheetSpansRow.holds Try.pinned (OpenSpec.ofChange sheetSpansSpec)

/-- ITS FALSE NEIGHBOUR: 'it returns false'. Refute it at one input. -/
def sheetSpansWrong : ChangeSpec := { name := "sheetSpans", fn := fun _ => fun
  | [d1, d2] => { results := [.lit (.bool false)], args := [d1, d2] }
  | _ => none }
def SheetSpansWrongFalsely : Prop := sheetSpansRow.holds Try.pinned (OpenSpec.ofChange sheetSpansWrong)

/-- 'layoverlaw11.SheetLost': WHATEVER THE INPUT: true; the input reads as it did. -/
def sheetLostSpec : ChangeSpec := { name := "sheetLost", fn := fun _ => fun
  | [d1, d2] => { results := [.lit (.bool true)], args := [d1, d2] }
  | _ => none }
def sheetLostRow : OpenClaim := { program := "ytffgfojabcbegaa", sum := "875c8c948ebe81d7a90b9fd38c568a614436b44035db02b19fa980486e69d70e", func := "layover/layoverlaw11.SheetLost", spec := "sheetLost", unfollowed := true, recurses := true, plainKeys := false, apart := false }
def SheetLostSaid : Prop := sheetLostRow.holds Try.pinned (OpenSpec.ofChange sheetLostSpec)

/-- ITS FALSE NEIGHBOUR: 'it returns false'. Refute it at one input. -/
def sheetLostWrong : ChangeSpec := { name := "sheetLost", fn := fun _ => fun
  | [d1, d2] => { results := [.lit (.bool false)], args := [d1, d2] }
  | _ => none }
def SheetLostWrongFalsely : Prop := sheetLostRow.holds Try.pinned (OpenSpec.ofChange sheetLostWrong)

/-- 'layoverlaw11.SheetTrue': WHATEVER THE INPUT: true; the input reads as it did. -/
def sheetTrueSpec : ChangeSpec := { name := "sheetTrue", fn := fun _ => fun
  | [d1, d2, d3] => { results := [.lit (.bool true)], args := [d1, d2, d3] }
  | _ => none }
def sheetTrueRow : OpenClaim := { program := "ytffgfojabcbegaa", sum := "875c8c948ebe81d7a90b9fd38c568a614436b44035db02b19fa980486e69d70e", func := "layover/layoverlaw11.SheetTrue", spec := "sheetTrue", unfollowed := true, recurses := true, plainKeys := false, apart := false }
def SheetTrueSaid : Prop := sheetTrueRow.holds Try.pinned (OpenSpec.ofChange sheetTrueSpec)

/-- ITS FALSE NEIGHBOUR: 'it returns false'. Refute it at one input. -/
def sheetTrueWrong : ChangeSpec := { name := "sheetTrue", fn := fun _ => fun
  | [d1, d2, d3] => { results := [.lit (.bool false)], args := [d1, d2, d3] }
  | _ => none }
def SheetTrueWrongFalsely : Prop := sheetTrueRow.holds Try.pinned (OpenSpec.ofChange sheetTrueWrong)

/-- 'layoverlaw11.SheetMore': WHATEVER THE INPUT: true; the input reads as it did. -/
def sheetMoreSpec : ChangeSpec := { name := "sheetMore", fn := fun _ => fun
  | [d1, d2, d3, d4, d5] => { results := [.lit (.bool true)], args := [d1, d2, d3, d4, d5] }
  | _ => none }
def sheetMoreRow : OpenClaim := { program := "ytffgfojabcbegaa", sum := "875c8c948ebe81d7a90b9fd38c568a614436b44035db02b19fa980486e69d70e", func := "layover/layoverlaw11.SheetMore", spec := "sheetMore", unfollowed := true, recurses := true, plainKeys := false, apart := false }
def SheetMoreSaid : Prop := sheetMoreRow.holds Try.pinned (OpenSpec.ofChange sheetMoreSpec)

/-- ITS FALSE NEIGHBOUR: 'it returns false'. Refute it at one input. -/
def sheetMoreWrong : ChangeSpec := { name := "sheetMore", fn := fun _ => fun
  | [d1, d2, d3, d4, d5] => { results := [.lit (.bool false)], args := [d1, d2, d3, d4, d5] }
  | _ => none }
def SheetMoreWrongFalsely : Prop := sheetMoreRow.holds Try.pinned (OpenSpec.ofChange sheetMoreWrong)

/-- 'layoverlaw11.SheetAgain': WHATEVER THE INPUT: true; the input reads as it did. -/
def sheetAgainSpec : ChangeSpec := { name := "sheetAgain", fn := fun _ => fun
  | [d1, d2, d3] => { results := [.lit (.bool true)], args := [d1, d2, d3] }
  | _ => none }
def sheetAgainRow : OpenClaim := { program := "ytffgfojabcbegaa", sum := "875c8c948ebe81d7a90b9fd38c568a614436b44035db02b19fa980486e69d70e", func := "layover/layoverlaw11.SheetAgain", spec := "sheetAgain", unfollowed := true, recurses := true, plainKeys := false, apart := false }
def SheetAgainSaid : Prop := sheetAgainRow.holds Try.pinned (OpenSpec.ofChange sheetAgainSpec)

/-- ITS FALSE NEIGHBOUR: 'it returns false'. Refute it at one input. -/
def sheetAgainWrong : ChangeSpec := { name := "sheetAgain", fn := fun _ => fun
  | [d1, d2, d3] => { results := [.lit (.bool false)], args := [d1, d2, d3] }
  | _ => none }
def SheetAgainWrongFalsely : Prop := sheetAgainRow.holds Try.pinned (OpenSpec.ofChange sheetAgainWrong)

/-- 'layoverlaw11.SheetMerges': WHATEVER THE INPUT: true; the input reads as it did. -/
def sheetMergesSpec : ChangeSpec := { name := "sheetMerges", fn := fun _ => fun
  | [d] => { results := [.lit (.bool true)], args := [d] }
  | _ => none }
def sheetMergesRow : OpenClaim := { program := "ytffgfojabcbegaa", sum := "875c8c948ebe81d7a90b9fd38c568a614436b44035db02b19fa980486e69d70e", func := "layover/layoverlaw11.SheetMerges", spec := "sheetMerges", unfollowed := true, recurses := true, plainKeys := false, apart := false }
def SheetMergesSaid : Prop := sheetMergesRow.holds Try.pinned (OpenSpec.ofChange sheetMergesSpec)

/-- ITS FALSE NEIGHBOUR: 'it returns false'. Refute it at one input. -/
def sheetMergesWrong : ChangeSpec := { name := "sheetMerges", fn := fun _ => fun
  | [d] => { results := [.lit (.bool false)], args := [d] }
  | _ => none }
def SheetMergesWrongFalsely : Prop := sheetMergesRow.holds Try.pinned (OpenSpec.ofChange sheetMergesWrong)

/-- 'layoverlaw11.SheetOrder': WHATEVER THE INPUT: true; the input reads as it did. -/
def sheetOrderSpec : ChangeSpec := { name := "sheetOrder", fn := fun _ => fun
  | [d1, d2, d3, d4, d5] => { results := [.lit (.bool true)], args := [d1, d2, d3, d4, d5] }
  | _ => none }
def sheetOrderRow : OpenClaim := { program := "ytffgfojabcbegaa", sum := "875c8c948ebe81d7a90b9fd38c568a614436b44035db02b19fa980486e69d70e", func := "layover/layoverlaw11.SheetOrder", spec := "sheetOrder", unfollowed := true, recurses := true, plainKeys := false, apart := false }
def SheetOrderSaid : Prop := sheetOrderRow.holds Try.pinned (OpenSpec.ofChange sheetOrderSpec)

/-- ITS FALSE NEIGHBOUR: 'it returns false'. Refute it at one input. -/
def sheetOrderWrong : ChangeSpec := { name := "sheetOrder", fn := fun _ => fun
  | [d1, d2, d3, d4, d5] => { results := [.lit (.bool false)], args := [d1, d2, d3, d4, d5] }
  | _ => none }
def SheetOrderWrongFalsely : Prop := sheetOrderRow.holds Try.pinned (OpenSpec.ofChange sheetOrderWrong)

/- THE SECOND FORM. 'bulk': how many values and letters a reading holds, each counted each time it is reached (what is shared counts as often as it is met; a slice's spare places count too). A statement '..UptoSaid' is the law's where the arguments, and the package variables that the reading takes, are together of bulk at most 1048576: NARROWER than '..Said'. Prove '..Said' where nothing that the law and all that it calls make is longer than what came in: it says more and counts as full. Else prove '..UptoSaid'. A law counts once. -/
mutual
def uptoBulk {H : Type} : DataW H → Nat
  | .lit (.string bytes) => bytes.length + 1
  | .lit _ => 1
  | .nil => 1
  | .ptr d => uptoBulk d + 1
  | .slice elems spare => uptoBulkAll elems + uptoBulkAll spare + 1
  | .agg parts => uptoBulkAll parts + 1
  | .iface _ d => uptoBulk d + 1
  | .map entries => uptoBulkEntries entries + 1
  | .held _ => 1
def uptoBulkAll {H : Type} : List (DataW H) → Nat
  | [] => 0
  | d :: r => uptoBulk d + uptoBulkAll r
def uptoBulkEntries {H : Type} : List (Lit × DataW H) → Nat
  | [] => 0
  | x :: r => uptoBulkEntry x + uptoBulkEntries r
def uptoBulkEntry {H : Type} : Lit × DataW H → Nat
  | (.string bytes, d) => bytes.length + uptoBulk d + 1
  | (_, d) => uptoBulk d + 1
 end
def uptoSmall : (H : Type) → List (DataW H) → Bool := fun _ ds => decide (uptoBulkAll ds ≤ 1048576)
def OpenSpec.upto (s : _root_.Go.ChangeSpec) : _root_.Go.OpenSpec := { _root_.Go.OpenSpec.ofChange s with cond := some uptoSmall }

/-- 'layoverlaw11.SheetEncodes', WHERE WHAT IT READS IS OF BULK AT MOST 1048576: true; the input reads as it did. -/
def sheetEncodesUptoRow : OpenClaim := { program := "ytffgfojabcbegaa", sum := "875c8c948ebe81d7a90b9fd38c568a614436b44035db02b19fa980486e69d70e", func := "layover/layoverlaw11.SheetEncodes", spec := "sheetEncodes", unfollowed := true, recurses := true, plainKeys := false, apart := false, narrowed := true }
def SheetEncodesUptoSaid : Prop := sheetEncodesUptoRow.holds Try.pinned (OpenSpec.upto sheetEncodesSpec)

/-- 'layoverlaw11.SheetLacks', WHERE WHAT IT READS IS OF BULK AT MOST 1048576: true; the input reads as it did. -/
def sheetLacksUptoRow : OpenClaim := { program := "ytffgfojabcbegaa", sum := "875c8c948ebe81d7a90b9fd38c568a614436b44035db02b19fa980486e69d70e", func := "layover/layoverlaw11.SheetLacks", spec := "sheetLacks", unfollowed := true, recurses := true, plainKeys := false, apart := false, narrowed := true }
def SheetLacksUptoSaid : Prop := sheetLacksUptoRow.holds Try.pinned (OpenSpec.upto sheetLacksSpec)

/-- 'layoverlaw11.SheetSpans', WHERE WHAT IT READS IS OF BULK AT MOST 1048576: true; the input reads as it did. -/
def sheetSpansUptoRow : OpenClaim := { program := "ytffgfojabcbegaa", sum := "875c8c948ebe81d7a90b9fd38c568a614436b44035db02b19fa980486e69d70e", func := "layover/layoverlaw11.SheetSpans", spec := "sheetSpans", unfollowed := true, recurses := true, plainKeys := false, apart := false, narrowed := true }
def SheetSpansUptoSaid : Prop := sheetSpansUptoRow.holds Try.pinned (OpenSpec.upto sheetSpansSpec)

/-- 'layoverlaw11.SheetLost', WHERE WHAT IT READS IS OF BULK AT MOST 1048576: true; the input reads as it did. -/
def sheetLostUptoRow : OpenClaim := { program := "ytffgfojabcbegaa", sum := "875c8c948ebe81d7a90b9fd38c568a614436b44035db02b19fa980486e69d70e", func := "layover/layoverlaw11.SheetLost", spec := "sheetLost", unfollowed := true, recurses := true, plainKeys := false, apart := false, narrowed := true }
def SheetLostUptoSaid : Prop := sheetLostUptoRow.holds Try.pinned (OpenSpec.upto sheetLostSpec)

/-- 'layoverlaw11.SheetTrue', WHERE WHAT IT READS IS OF BULK AT MOST 1048576: true; the input reads as it did. -/
def sheetTrueUptoRow : OpenClaim := { program := "ytffgfojabcbegaa", sum := "875c8c948ebe81d7a90b9fd38c568a614436b44035db02b19fa980486e69d70e", func := "layover/layoverlaw11.SheetTrue", spec := "sheetTrue", unfollowed := true, recurses := true, plainKeys := false, apart := false, narrowed := true }
def SheetTrueUptoSaid : Prop := sheetTrueUptoRow.holds Try.pinned (OpenSpec.upto sheetTrueSpec)

/-- 'layoverlaw11.SheetMore', WHERE WHAT IT READS IS OF BULK AT MOST 1048576: true; the input reads as it did. -/
def sheetMoreUptoRow : OpenClaim := { program := "ytffgfojabcbegaa", sum := "875c8c948ebe81d7a90b9fd38c568a614436b44035db02b19fa980486e69d70e", func := "layover/layoverlaw11.SheetMore", spec := "sheetMore", unfollowed := true, recurses := true, plainKeys := false, apart := false, narrowed := true }
def SheetMoreUptoSaid : Prop := sheetMoreUptoRow.holds Try.pinned (OpenSpec.upto sheetMoreSpec)

/-- 'layoverlaw11.SheetAgain', WHERE WHAT IT READS IS OF BULK AT MOST 1048576: true; the input reads as it did. -/
def sheetAgainUptoRow : OpenClaim := { program := "ytffgfojabcbegaa", sum := "875c8c948ebe81d7a90b9fd38c568a614436b44035db02b19fa980486e69d70e", func := "layover/layoverlaw11.SheetAgain", spec := "sheetAgain", unfollowed := true, recurses := true, plainKeys := false, apart := false, narrowed := true }
def SheetAgainUptoSaid : Prop := sheetAgainUptoRow.holds Try.pinned (OpenSpec.upto sheetAgainSpec)

/-- 'layoverlaw11.SheetMerges', WHERE WHAT IT READS IS OF BULK AT MOST 1048576: true; the input reads as it did. -/
def sheetMergesUptoRow : OpenClaim := { program := "ytffgfojabcbegaa", sum := "875c8c948ebe81d7a90b9fd38c568a614436b44035db02b19fa980486e69d70e", func := "layover/layoverlaw11.SheetMerges", spec := "sheetMerges", unfollowed := true, recurses := true, plainKeys := false, apart := false, narrowed := true }
def SheetMergesUptoSaid : Prop := sheetMergesUptoRow.holds Try.pinned (OpenSpec.upto sheetMergesSpec)

/-- 'layoverlaw11.SheetOrder', WHERE WHAT IT READS IS OF BULK AT MOST 1048576: true; the input reads as it did. -/
def sheetOrderUptoRow : OpenClaim := { program := "ytffgfojabcbegaa", sum := "875c8c948ebe81d7a90b9fd38c568a614436b44035db02b19fa980486e69d70e", func := "layover/layoverlaw11.SheetOrder", spec := "sheetOrder", unfollowed := true, recurses := true, plainKeys := false, apart := false, narrowed := true }
def SheetOrderUptoSaid : Prop := sheetOrderUptoRow.holds Try.pinned (OpenSpec.upto sheetOrderSpec)

end Rows
end Go.Proofs.Ytffgfojabcbegaa
