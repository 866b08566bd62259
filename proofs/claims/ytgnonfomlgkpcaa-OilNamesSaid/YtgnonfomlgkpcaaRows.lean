/-
  No cell of these rows narrows 'for every input' (looked for: loops, veiled, ifaces, maps, wideKeys, modest, calm, conditions, laid).
  DERIVED. THE GIVEN ROWS OF THIS SEAT. 12 by the template 'for every input the law returns true; each argument reads behind the call as it read before'; 0 by the template 'total and deterministic' (their statements: YtgnonfomlgkpcaaTotals.lean).
  GIVEN WITH THE SEED: the statements are not yours to turn. If you find one false, say at which input.
  Laid BY PROGRAM, IN A SANDBOX (cutbox-rows.mjs): the forced cells as the released guide's own fill.sh prints them over the translation f00ec7fe9ad8ad19… (all of the seat's roots in one cut). By AI agents, Wed Nov 11 2026. No macro, syntax, notation, axiom, sorry.
-/
import Derived.Test.YtgnonfomlgkpcaaChecked
import GoSem.Claim
import GoSem.ClaimJoined
import GoSem.ClaimMapViews
import Derived.JoinedTies
import Derived.KernelRfl
namespace Go.Proofs.Ytgnonfomlgkpcaa
/- THE CELL 'sum', in the pinned program and in every row, IS THE sha256 OF THE DUMP (.gsa) THAT YtgnonfomlgkpcaaProg.lean LOADS. Nothing in Lean hashes anything: it is a label: what it is worth is what the hold of that sum in a sandbox is worth. -/
noncomputable def Try.pinned : Pinned := { name := "ytgnonfomlgkpcaa", sum := "f00ec7fe9ad8ad1923262d9945ea62345ae8252834aeaf2f920a50df5917cf5e", checked := Try.checked }
namespace Rows
def none {H : Type} : Left H := { results := [], args := [] }

/-- 'kingpinlaw10.OilPlays': WHATEVER THE INPUT: true; the input reads as it did. -/
def oilPlaysSpec : ChangeSpec := { name := "oilPlays", fn := fun _ => fun
  | [d1, d2, d3] => { results := [.lit (.bool true)], args := [d1, d2, d3] }
  | _ => none }
def oilPlaysRow : OpenClaim := { program := "ytgnonfomlgkpcaa", sum := "f00ec7fe9ad8ad1923262d9945ea62345ae8252834aeaf2f920a50df5917cf5e", func := "kingpin/kingpinlaw10.OilPlays", spec := "oilPlays", unfollowed := true, recurses := true, plainKeys := false, apart := false }
def OilPlaysSaid : Prop := oilPlaysRow.holds Try.pinned (OpenSpec.ofChange oilPlaysSpec)

/-- ITS FALSE NEIGHBOUR: 'it returns false'. Refute it at one input. -/
def oilPlaysWrong : ChangeSpec := { name := "oilPlays", fn := fun _ => fun
  | [d1, d2, d3] => { results := [.lit (.bool false)], args := [d1, d2, d3] }
  | _ => none }
def OilPlaysWrongFalsely : Prop := oilPlaysRow.holds Try.pinned (OpenSpec.ofChange oilPlaysWrong)

/-- 'kingpinlaw10.OilBounds': WHATEVER THE INPUT: true; the input reads as it did. -/
def oilBoundsSpec : ChangeSpec := { name := "oilBounds", fn := fun _ => fun
  | [d1, d2] => { results := [.lit (.bool true)], args := [d1, d2] }
  | _ => none }
def oilBoundsRow : OpenClaim := { program := "ytgnonfomlgkpcaa", sum := "f00ec7fe9ad8ad1923262d9945ea62345ae8252834aeaf2f920a50df5917cf5e", func := "kingpin/kingpinlaw10.OilBounds", spec := "oilBounds", unfollowed := true, recurses := true, plainKeys := false, apart := false }
def OilBoundsSaid : Prop := oilBoundsRow.holds Try.pinned (OpenSpec.ofChange oilBoundsSpec)

/-- ITS FALSE NEIGHBOUR: 'it returns false'. Refute it at one input. -/
def oilBoundsWrong : ChangeSpec := { name := "oilBounds", fn := fun _ => fun
  | [d1, d2] => { results := [.lit (.bool false)], args := [d1, d2] }
  | _ => none }
def OilBoundsWrongFalsely : Prop := oilBoundsRow.holds Try.pinned (OpenSpec.ofChange oilBoundsWrong)

/-- 'kingpinlaw10.OilEnds': WHATEVER THE INPUT: true; the input reads as it did. -/
def oilEndsSpec : ChangeSpec := { name := "oilEnds", fn := fun _ => fun
  | [d1, d2, d3] => { results := [.lit (.bool true)], args := [d1, d2, d3] }
  | _ => none }
def oilEndsRow : OpenClaim := { program := "ytgnonfomlgkpcaa", sum := "f00ec7fe9ad8ad1923262d9945ea62345ae8252834aeaf2f920a50df5917cf5e", func := "kingpin/kingpinlaw10.OilEnds", spec := "oilEnds", unfollowed := true, recurses := true, plainKeys := false, apart := false }
def OilEndsSaid : Prop := oilEndsRow.holds Try.pinned (OpenSpec.ofChange oilEndsSpec)

/-- ITS FALSE NEIGHBOUR: 'it returns false'. Refute it at one input. -/
def oilEndsWrong : ChangeSpec := { name := "oilEnds", fn := fun _ => fun
  | [d1, d2, d3] => { results := [.lit (.bool false)], args := [d1, d2, d3] }
  | _ => none }
def OilEndsWrongFalsely : Prop := oilEndsRow.holds Try.pinned (OpenSpec.ofChange oilEndsWrong)

/-- 'kingpinlaw10.OilSteps': WHATEVER THE INPUT: true; the input reads as it did. -/
def oilStepsSpec : ChangeSpec := { name := "oilSteps", fn := fun _ => fun
  | [d1, d2, d3] => { results := [.lit (.bool true)], args := [d1, d2, d3] }
  | _ => none }
def oilStepsRow : OpenClaim := { program := "ytgnonfomlgkpcaa", sum := "f00ec7fe9ad8ad1923262d9945ea62345ae8252834aeaf2f920a50df5917cf5e", func := "kingpin/kingpinlaw10.OilSteps", spec := "oilSteps", unfollowed := true, recurses := true, plainKeys := false, apart := false }
def OilStepsSaid : Prop := oilStepsRow.holds Try.pinned (OpenSpec.ofChange oilStepsSpec)

/-- ITS FALSE NEIGHBOUR: 'it returns false'. Refute it at one input. -/
def oilStepsWrong : ChangeSpec := { name := "oilSteps", fn := fun _ => fun
  | [d1, d2, d3] => { results := [.lit (.bool false)], args := [d1, d2, d3] }
  | _ => none }
def OilStepsWrongFalsely : Prop := oilStepsRow.holds Try.pinned (OpenSpec.ofChange oilStepsWrong)

/-- 'kingpinlaw10.OilDry': WHATEVER THE INPUT: true; the input reads as it did. -/
def oilDrySpec : ChangeSpec := { name := "oilDry", fn := fun _ => fun
  | [d1, d2, d3] => { results := [.lit (.bool true)], args := [d1, d2, d3] }
  | _ => none }
def oilDryRow : OpenClaim := { program := "ytgnonfomlgkpcaa", sum := "f00ec7fe9ad8ad1923262d9945ea62345ae8252834aeaf2f920a50df5917cf5e", func := "kingpin/kingpinlaw10.OilDry", spec := "oilDry", unfollowed := true, recurses := true, plainKeys := false, apart := false }
def OilDrySaid : Prop := oilDryRow.holds Try.pinned (OpenSpec.ofChange oilDrySpec)

/-- ITS FALSE NEIGHBOUR: 'it returns false'. Refute it at one input. -/
def oilDryWrong : ChangeSpec := { name := "oilDry", fn := fun _ => fun
  | [d1, d2, d3] => { results := [.lit (.bool false)], args := [d1, d2, d3] }
  | _ => none }
def OilDryWrongFalsely : Prop := oilDryRow.holds Try.pinned (OpenSpec.ofChange oilDryWrong)

/-- 'kingpinlaw10.OilStays': WHATEVER THE INPUT: true; the input reads as it did. -/
def oilStaysSpec : ChangeSpec := { name := "oilStays", fn := fun _ => fun
  | [d1, d2, d3] => { results := [.lit (.bool true)], args := [d1, d2, d3] }
  | _ => none }
def oilStaysRow : OpenClaim := { program := "ytgnonfomlgkpcaa", sum := "f00ec7fe9ad8ad1923262d9945ea62345ae8252834aeaf2f920a50df5917cf5e", func := "kingpin/kingpinlaw10.OilStays", spec := "oilStays", unfollowed := true, recurses := true, plainKeys := false, apart := false }
def OilStaysSaid : Prop := oilStaysRow.holds Try.pinned (OpenSpec.ofChange oilStaysSpec)

/-- ITS FALSE NEIGHBOUR: 'it returns false'. Refute it at one input. -/
def oilStaysWrong : ChangeSpec := { name := "oilStays", fn := fun _ => fun
  | [d1, d2, d3] => { results := [.lit (.bool false)], args := [d1, d2, d3] }
  | _ => none }
def OilStaysWrongFalsely : Prop := oilStaysRow.holds Try.pinned (OpenSpec.ofChange oilStaysWrong)

/-- 'kingpinlaw10.OilTruth': WHATEVER THE INPUT: true; the input reads as it did. -/
def oilTruthSpec : ChangeSpec := { name := "oilTruth", fn := fun _ => fun
  | [d1, d2, d3, d4] => { results := [.lit (.bool true)], args := [d1, d2, d3, d4] }
  | _ => none }
def oilTruthRow : OpenClaim := { program := "ytgnonfomlgkpcaa", sum := "f00ec7fe9ad8ad1923262d9945ea62345ae8252834aeaf2f920a50df5917cf5e", func := "kingpin/kingpinlaw10.OilTruth", spec := "oilTruth", unfollowed := true, recurses := true, plainKeys := false, apart := false }
def OilTruthSaid : Prop := oilTruthRow.holds Try.pinned (OpenSpec.ofChange oilTruthSpec)

/-- ITS FALSE NEIGHBOUR: 'it returns false'. Refute it at one input. -/
def oilTruthWrong : ChangeSpec := { name := "oilTruth", fn := fun _ => fun
  | [d1, d2, d3, d4] => { results := [.lit (.bool false)], args := [d1, d2, d3, d4] }
  | _ => none }
def OilTruthWrongFalsely : Prop := oilTruthRow.holds Try.pinned (OpenSpec.ofChange oilTruthWrong)

/-- 'kingpinlaw10.OilWider': WHATEVER THE INPUT: true; the input reads as it did. -/
def oilWiderSpec : ChangeSpec := { name := "oilWider", fn := fun _ => fun
  | [d1, d2, d3, d4, d5] => { results := [.lit (.bool true)], args := [d1, d2, d3, d4, d5] }
  | _ => none }
def oilWiderRow : OpenClaim := { program := "ytgnonfomlgkpcaa", sum := "f00ec7fe9ad8ad1923262d9945ea62345ae8252834aeaf2f920a50df5917cf5e", func := "kingpin/kingpinlaw10.OilWider", spec := "oilWider", unfollowed := true, recurses := true, plainKeys := false, apart := false }
def OilWiderSaid : Prop := oilWiderRow.holds Try.pinned (OpenSpec.ofChange oilWiderSpec)

/-- ITS FALSE NEIGHBOUR: 'it returns false'. Refute it at one input. -/
def oilWiderWrong : ChangeSpec := { name := "oilWider", fn := fun _ => fun
  | [d1, d2, d3, d4, d5] => { results := [.lit (.bool false)], args := [d1, d2, d3, d4, d5] }
  | _ => none }
def OilWiderWrongFalsely : Prop := oilWiderRow.holds Try.pinned (OpenSpec.ofChange oilWiderWrong)

/-- 'kingpinlaw10.OilMirrored': WHATEVER THE INPUT: true; the input reads as it did. -/
def oilMirroredSpec : ChangeSpec := { name := "oilMirrored", fn := fun _ => fun
  | [d1, d2, d3] => { results := [.lit (.bool true)], args := [d1, d2, d3] }
  | _ => none }
def oilMirroredRow : OpenClaim := { program := "ytgnonfomlgkpcaa", sum := "f00ec7fe9ad8ad1923262d9945ea62345ae8252834aeaf2f920a50df5917cf5e", func := "kingpin/kingpinlaw10.OilMirrored", spec := "oilMirrored", unfollowed := true, recurses := true, plainKeys := false, apart := false }
def OilMirroredSaid : Prop := oilMirroredRow.holds Try.pinned (OpenSpec.ofChange oilMirroredSpec)

/-- ITS FALSE NEIGHBOUR: 'it returns false'. Refute it at one input. -/
def oilMirroredWrong : ChangeSpec := { name := "oilMirrored", fn := fun _ => fun
  | [d1, d2, d3] => { results := [.lit (.bool false)], args := [d1, d2, d3] }
  | _ => none }
def OilMirroredWrongFalsely : Prop := oilMirroredRow.holds Try.pinned (OpenSpec.ofChange oilMirroredWrong)

/-- 'kingpinlaw10.OilPlans': WHATEVER THE INPUT: true; the input reads as it did. -/
def oilPlansSpec : ChangeSpec := { name := "oilPlans", fn := fun _ => fun
  | [d1, d2, d3] => { results := [.lit (.bool true)], args := [d1, d2, d3] }
  | _ => none }
def oilPlansRow : OpenClaim := { program := "ytgnonfomlgkpcaa", sum := "f00ec7fe9ad8ad1923262d9945ea62345ae8252834aeaf2f920a50df5917cf5e", func := "kingpin/kingpinlaw10.OilPlans", spec := "oilPlans", unfollowed := true, recurses := true, plainKeys := false, apart := false }
def OilPlansSaid : Prop := oilPlansRow.holds Try.pinned (OpenSpec.ofChange oilPlansSpec)

/-- ITS FALSE NEIGHBOUR: 'it returns false'. Refute it at one input. -/
def oilPlansWrong : ChangeSpec := { name := "oilPlans", fn := fun _ => fun
  | [d1, d2, d3] => { results := [.lit (.bool false)], args := [d1, d2, d3] }
  | _ => none }
def OilPlansWrongFalsely : Prop := oilPlansRow.holds Try.pinned (OpenSpec.ofChange oilPlansWrong)

/-- 'kingpinlaw10.OilFewest': WHATEVER THE INPUT: true; the input reads as it did. -/
def oilFewestSpec : ChangeSpec := { name := "oilFewest", fn := fun _ => fun
  | [d1, d2, d3] => { results := [.lit (.bool true)], args := [d1, d2, d3] }
  | _ => none }
def oilFewestRow : OpenClaim := { program := "ytgnonfomlgkpcaa", sum := "f00ec7fe9ad8ad1923262d9945ea62345ae8252834aeaf2f920a50df5917cf5e", func := "kingpin/kingpinlaw10.OilFewest", spec := "oilFewest", unfollowed := true, recurses := true, plainKeys := false, apart := false }
def OilFewestSaid : Prop := oilFewestRow.holds Try.pinned (OpenSpec.ofChange oilFewestSpec)

/-- ITS FALSE NEIGHBOUR: 'it returns false'. Refute it at one input. -/
def oilFewestWrong : ChangeSpec := { name := "oilFewest", fn := fun _ => fun
  | [d1, d2, d3] => { results := [.lit (.bool false)], args := [d1, d2, d3] }
  | _ => none }
def OilFewestWrongFalsely : Prop := oilFewestRow.holds Try.pinned (OpenSpec.ofChange oilFewestWrong)

/-- 'kingpinlaw10.OilNames': WHATEVER THE INPUT: true; the input reads as it did. -/
def oilNamesSpec : ChangeSpec := { name := "oilNames", fn := fun _ => fun
  | [] => { results := [.lit (.bool true)], args := [] }
  | _ => none }
def oilNamesRow : OpenClaim := { program := "ytgnonfomlgkpcaa", sum := "f00ec7fe9ad8ad1923262d9945ea62345ae8252834aeaf2f920a50df5917cf5e", func := "kingpin/kingpinlaw10.OilNames", spec := "oilNames", unfollowed := true, recurses := true, plainKeys := false, apart := false }
def OilNamesSaid : Prop := oilNamesRow.holds Try.pinned (OpenSpec.ofChange oilNamesSpec)

/-- ITS FALSE NEIGHBOUR: 'it returns false'. Refute it at one input. -/
def oilNamesWrong : ChangeSpec := { name := "oilNames", fn := fun _ => fun
  | [] => { results := [.lit (.bool false)], args := [] }
  | _ => none }
def OilNamesWrongFalsely : Prop := oilNamesRow.holds Try.pinned (OpenSpec.ofChange oilNamesWrong)

/- THE SECOND FORM. 'bulk': how many values and letters a reading holds, each counted each time it is reached (what is shared counts as often as it is met; a slice's spare places count too). A statement '..UptoSaid' is the law's where the arguments, and the package variables that the reading takes, are together of bulk at most 1048576: NARROWER than '..Said'. Prove '..Said' where nothing that the law and all that it calls make is longer than what came in: it says more and counts as full. Else prove '..UptoSaid'. A law counts once. -/
mutual
def uptoBulk {H : Type} : DataW H → Nat
  | .lit (.string bytes) => bytes.length + 1
  | .lit _ => 1
  | .nil => 1
  | .ptr d => uptoBulk d + 1
  | .slice elems spare => uptoBulkAll elems + uptoBulkAll spare + 1
  | .agg parts => uptoBulkAll parts + 1
  | .iface _ d => uptoBulk d + 1
  | .map entries => uptoBulkEntries entries + 1
  | .held _ => 1
def uptoBulkAll {H : Type} : List (DataW H) → Nat
  | [] => 0
  | d :: r => uptoBulk d + uptoBulkAll r
def uptoBulkEntries {H : Type} : List (Lit × DataW H) → Nat
  | [] => 0
  | x :: r => uptoBulkEntry x + uptoBulkEntries r
def uptoBulkEntry {H : Type} : Lit × DataW H → Nat
  | (.string bytes, d) => bytes.length + uptoBulk d + 1
  | (_, d) => uptoBulk d + 1
 end
def uptoSmall : (H : Type) → List (DataW H) → Bool := fun _ ds => decide (uptoBulkAll ds ≤ 1048576)
def OpenSpec.upto (s : _root_.Go.ChangeSpec) : _root_.Go.OpenSpec := { _root_.Go.OpenSpec.ofChange s with cond := some uptoSmall }

/-- 'kingpinlaw10.OilPlays', WHERE WHAT IT READS IS OF BULK AT MOST 1048576: true; the input reads as it did. -/
def oilPlaysUptoRow : OpenClaim := { program := "ytgnonfomlgkpcaa", sum := "f00ec7fe9ad8ad1923262d9945ea62345ae8252834aeaf2f920a50df5917cf5e", func := "kingpin/kingpinlaw10.OilPlays", spec := "oilPlays", unfollowed := true, recurses := true, plainKeys := false, apart := false, narrowed := true }
def OilPlaysUptoSaid : Prop := oilPlaysUptoRow.holds Try.pinned (OpenSpec.upto oilPlaysSpec)

/-- 'kingpinlaw10.OilBounds', WHERE WHAT IT READS IS OF BULK AT MOST 1048576: true; the input reads as it did. -/
def oilBoundsUptoRow : OpenClaim := { program := "ytgnonfomlgkpcaa", sum := "f00ec7fe9ad8ad1923262d9945ea62345ae8252834aeaf2f920a50df5917cf5e", func := "kingpin/kingpinlaw10.OilBounds", spec := "oilBounds", unfollowed := true, recurses := true, plainKeys := false, apart := false, narrowed := true }
def OilBoundsUptoSaid : Prop := oilBoundsUptoRow.holds Try.pinned (OpenSpec.upto oilBoundsSpec)

/-- 'kingpinlaw10.OilEnds', WHERE WHAT IT READS IS OF BULK AT MOST 1048576: true; the input reads as it did. -/
def oilEndsUptoRow : OpenClaim := { program := "ytgnonfomlgkpcaa", sum := "f00ec7fe9ad8ad1923262d9945ea62345ae8252834aeaf2f920a50df5917cf5e", func := "kingpin/kingpinlaw10.OilEnds", spec := "oilEnds", unfollowed := true, recurses := true, plainKeys := false, apart := false, narrowed := true }
def OilEndsUptoSaid : Prop := oilEndsUptoRow.holds Try.pinned (OpenSpec.upto oilEndsSpec)

/-- 'kingpinlaw10.OilSteps', WHERE WHAT IT READS IS OF BULK AT MOST 1048576: true; the input reads as it did. -/
def oilStepsUptoRow : OpenClaim := { program := "ytgnonfomlgkpcaa", sum := "f00ec7fe9ad8ad1923262d9945ea62345ae8252834aeaf2f920a50df5917cf5e", func := "kingpin/kingpinlaw10.OilSteps", spec := "oilSteps", unfollowed := true, recurses := true, plainKeys := false, apart := false, narrowed := true }
def OilStepsUptoSaid : Prop := oilStepsUptoRow.holds Try.pinned (OpenSpec.upto oilStepsSpec)

/-- 'kingpinlaw10.OilDry', WHERE WHAT IT READS IS OF BULK AT MOST 1048576: true; the input reads as it did. -/
def oilDryUptoRow : OpenClaim := { program := "ytgnonfomlgkpcaa", sum := "f00ec7fe9ad8ad1923262d9945ea62345ae8252834aeaf2f920a50df5917cf5e", func := "kingpin/kingpinlaw10.OilDry", spec := "oilDry", unfollowed := true, recurses := true, plainKeys := false, apart := false, narrowed := true }
def OilDryUptoSaid : Prop := oilDryUptoRow.holds Try.pinned (OpenSpec.upto oilDrySpec)

/-- 'kingpinlaw10.OilStays', WHERE WHAT IT READS IS OF BULK AT MOST 1048576: true; the input reads as it did. -/
def oilStaysUptoRow : OpenClaim := { program := "ytgnonfomlgkpcaa", sum := "f00ec7fe9ad8ad1923262d9945ea62345ae8252834aeaf2f920a50df5917cf5e", func := "kingpin/kingpinlaw10.OilStays", spec := "oilStays", unfollowed := true, recurses := true, plainKeys := false, apart := false, narrowed := true }
def OilStaysUptoSaid : Prop := oilStaysUptoRow.holds Try.pinned (OpenSpec.upto oilStaysSpec)

/-- 'kingpinlaw10.OilTruth', WHERE WHAT IT READS IS OF BULK AT MOST 1048576: true; the input reads as it did. -/
def oilTruthUptoRow : OpenClaim := { program := "ytgnonfomlgkpcaa", sum := "f00ec7fe9ad8ad1923262d9945ea62345ae8252834aeaf2f920a50df5917cf5e", func := "kingpin/kingpinlaw10.OilTruth", spec := "oilTruth", unfollowed := true, recurses := true, plainKeys := false, apart := false, narrowed := true }
def OilTruthUptoSaid : Prop := oilTruthUptoRow.holds Try.pinned (OpenSpec.upto oilTruthSpec)

/-- 'kingpinlaw10.OilWider', WHERE WHAT IT READS IS OF BULK AT MOST 1048576: true; the input reads as it did. -/
def oilWiderUptoRow : OpenClaim := { program := "ytgnonfomlgkpcaa", sum := "f00ec7fe9ad8ad1923262d9945ea62345ae8252834aeaf2f920a50df5917cf5e", func := "kingpin/kingpinlaw10.OilWider", spec := "oilWider", unfollowed := true, recurses := true, plainKeys := false, apart := false, narrowed := true }
def OilWiderUptoSaid : Prop := oilWiderUptoRow.holds Try.pinned (OpenSpec.upto oilWiderSpec)

/-- 'kingpinlaw10.OilMirrored', WHERE WHAT IT READS IS OF BULK AT MOST 1048576: true; the input reads as it did. -/
def oilMirroredUptoRow : OpenClaim := { program := "ytgnonfomlgkpcaa", sum := "f00ec7fe9ad8ad1923262d9945ea62345ae8252834aeaf2f920a50df5917cf5e", func := "kingpin/kingpinlaw10.OilMirrored", spec := "oilMirrored", unfollowed := true, recurses := true, plainKeys := false, apart := false, narrowed := true }
def OilMirroredUptoSaid : Prop := oilMirroredUptoRow.holds Try.pinned (OpenSpec.upto oilMirroredSpec)

/-- 'kingpinlaw10.OilPlans', WHERE WHAT IT READS IS OF BULK AT MOST 1048576: true; the input reads as it did. -/
def oilPlansUptoRow : OpenClaim := { program := "ytgnonfomlgkpcaa", sum := "f00ec7fe9ad8ad1923262d9945ea62345ae8252834aeaf2f920a50df5917cf5e", func := "kingpin/kingpinlaw10.OilPlans", spec := "oilPlans", unfollowed := true, recurses := true, plainKeys := false, apart := false, narrowed := true }
def OilPlansUptoSaid : Prop := oilPlansUptoRow.holds Try.pinned (OpenSpec.upto oilPlansSpec)

/-- 'kingpinlaw10.OilFewest', WHERE WHAT IT READS IS OF BULK AT MOST 1048576: true; the input reads as it did. -/
def oilFewestUptoRow : OpenClaim := { program := "ytgnonfomlgkpcaa", sum := "f00ec7fe9ad8ad1923262d9945ea62345ae8252834aeaf2f920a50df5917cf5e", func := "kingpin/kingpinlaw10.OilFewest", spec := "oilFewest", unfollowed := true, recurses := true, plainKeys := false, apart := false, narrowed := true }
def OilFewestUptoSaid : Prop := oilFewestUptoRow.holds Try.pinned (OpenSpec.upto oilFewestSpec)

/-- 'kingpinlaw10.OilNames', WHERE WHAT IT READS IS OF BULK AT MOST 1048576: true; the input reads as it did. -/
def oilNamesUptoRow : OpenClaim := { program := "ytgnonfomlgkpcaa", sum := "f00ec7fe9ad8ad1923262d9945ea62345ae8252834aeaf2f920a50df5917cf5e", func := "kingpin/kingpinlaw10.OilNames", spec := "oilNames", unfollowed := true, recurses := true, plainKeys := false, apart := false, narrowed := true }
def OilNamesUptoSaid : Prop := oilNamesUptoRow.holds Try.pinned (OpenSpec.upto oilNamesSpec)

end Rows
end Go.Proofs.Ytgnonfomlgkpcaa
