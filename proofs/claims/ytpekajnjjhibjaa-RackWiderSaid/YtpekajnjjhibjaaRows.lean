/-
  No cell of these rows narrows 'for every input' (looked for: loops, veiled, ifaces, maps, wideKeys, modest, calm, conditions, laid).
  DERIVED. THE GIVEN ROWS OF THIS SEAT. 12 by the template 'for every input the law returns true; each argument reads behind the call as it read before'; 0 by the template 'total and deterministic' (their statements: YtpekajnjjhibjaaTotals.lean).
  GIVEN WITH THE SEED: the statements are not yours to turn. If you find one false, say at which input.
  Laid BY PROGRAM, IN A SANDBOX (cutbox-rows.mjs): the forced cells as the released guide's own fill.sh prints them over the translation d5dbcf9fb80f95db… (all of the seat's roots in one cut). By AI agents, Wed Nov 11 2026. No macro, syntax, notation, axiom, sorry.
-/
import Derived.Test.YtpekajnjjhibjaaChecked
import GoSem.Claim
import GoSem.ClaimJoined
import GoSem.ClaimMapViews
import Derived.JoinedTies
import Derived.KernelRfl
namespace Go.Proofs.Ytpekajnjjhibjaa
/- THE CELL 'sum', in the pinned program and in every row, IS THE sha256 OF THE DUMP (.gsa) THAT YtpekajnjjhibjaaProg.lean LOADS. Nothing in Lean hashes anything: it is a label: what it is worth is what the hold of that sum in a sandbox is worth. -/
noncomputable def Try.pinned : Pinned := { name := "ytpekajnjjhibjaa", sum := "d5dbcf9fb80f95dbce7505b531cdd8135657986e338bbc3f749320d7d61a4c95", checked := Try.checked }
namespace Rows
def none {H : Type} : Left H := { results := [], args := [] }

/-- 'kingpinlaw02.RackWider': WHATEVER THE INPUT: true; the input reads as it did. -/
def rackWiderSpec : ChangeSpec := { name := "rackWider", fn := fun _ => fun
  | [d1, d2, d3, d4, d5, d6] => { results := [.lit (.bool true)], args := [d1, d2, d3, d4, d5, d6] }
  | _ => none }
def rackWiderRow : OpenClaim := { program := "ytpekajnjjhibjaa", sum := "d5dbcf9fb80f95dbce7505b531cdd8135657986e338bbc3f749320d7d61a4c95", func := "kingpin/kingpinlaw02.RackWider", spec := "rackWider", unfollowed := true, recurses := true, plainKeys := false, apart := false }
def RackWiderSaid : Prop := rackWiderRow.holds Try.pinned (OpenSpec.ofChange rackWiderSpec)

/-- ITS FALSE NEIGHBOUR: 'it returns false'. Refute it at one input. -/
def rackWiderWrong : ChangeSpec := { name := "rackWider", fn := fun _ => fun
  | [d1, d2, d3, d4, d5, d6] => { results := [.lit (.bool false)], args := [d1, d2, d3, d4, d5, d6] }
  | _ => none }
def RackWiderWrongFalsely : Prop := rackWiderRow.holds Try.pinned (OpenSpec.ofChange rackWiderWrong)

/-- 'kingpinlaw02.RackConverts': WHATEVER THE INPUT: true; the input reads as it did. -/
def rackConvertsSpec : ChangeSpec := { name := "rackConverts", fn := fun _ => fun
  | [d1, d2, d3, d4] => { results := [.lit (.bool true)], args := [d1, d2, d3, d4] }
  | _ => none }
def rackConvertsRow : OpenClaim := { program := "ytpekajnjjhibjaa", sum := "d5dbcf9fb80f95dbce7505b531cdd8135657986e338bbc3f749320d7d61a4c95", func := "kingpin/kingpinlaw02.RackConverts", spec := "rackConverts", unfollowed := true, recurses := true, plainKeys := false, apart := false }
def RackConvertsSaid : Prop := rackConvertsRow.holds Try.pinned (OpenSpec.ofChange rackConvertsSpec)

/-- ITS FALSE NEIGHBOUR: 'it returns false'. Refute it at one input. -/
def rackConvertsWrong : ChangeSpec := { name := "rackConverts", fn := fun _ => fun
  | [d1, d2, d3, d4] => { results := [.lit (.bool false)], args := [d1, d2, d3, d4] }
  | _ => none }
def RackConvertsWrongFalsely : Prop := rackConvertsRow.holds Try.pinned (OpenSpec.ofChange rackConvertsWrong)

/-- 'kingpinlaw02.RackStraight': WHATEVER THE INPUT: true; the input reads as it did. -/
def rackStraightSpec : ChangeSpec := { name := "rackStraight", fn := fun _ => fun
  | [d1, d2, d3, d4] => { results := [.lit (.bool true)], args := [d1, d2, d3, d4] }
  | _ => none }
def rackStraightRow : OpenClaim := { program := "ytpekajnjjhibjaa", sum := "d5dbcf9fb80f95dbce7505b531cdd8135657986e338bbc3f749320d7d61a4c95", func := "kingpin/kingpinlaw02.RackStraight", spec := "rackStraight", unfollowed := true, recurses := true, plainKeys := false, apart := false }
def RackStraightSaid : Prop := rackStraightRow.holds Try.pinned (OpenSpec.ofChange rackStraightSpec)

/-- ITS FALSE NEIGHBOUR: 'it returns false'. Refute it at one input. -/
def rackStraightWrong : ChangeSpec := { name := "rackStraight", fn := fun _ => fun
  | [d1, d2, d3, d4] => { results := [.lit (.bool false)], args := [d1, d2, d3, d4] }
  | _ => none }
def RackStraightWrongFalsely : Prop := rackStraightRow.holds Try.pinned (OpenSpec.ofChange rackStraightWrong)

/-- 'kingpinlaw02.RackFalls': WHATEVER THE INPUT: true; the input reads as it did. -/
def rackFallsSpec : ChangeSpec := { name := "rackFalls", fn := fun _ => fun
  | [d1, d2, d3, d4] => { results := [.lit (.bool true)], args := [d1, d2, d3, d4] }
  | _ => none }
def rackFallsRow : OpenClaim := { program := "ytpekajnjjhibjaa", sum := "d5dbcf9fb80f95dbce7505b531cdd8135657986e338bbc3f749320d7d61a4c95", func := "kingpin/kingpinlaw02.RackFalls", spec := "rackFalls", unfollowed := true, recurses := true, plainKeys := false, apart := false }
def RackFallsSaid : Prop := rackFallsRow.holds Try.pinned (OpenSpec.ofChange rackFallsSpec)

/-- ITS FALSE NEIGHBOUR: 'it returns false'. Refute it at one input. -/
def rackFallsWrong : ChangeSpec := { name := "rackFalls", fn := fun _ => fun
  | [d1, d2, d3, d4] => { results := [.lit (.bool false)], args := [d1, d2, d3, d4] }
  | _ => none }
def RackFallsWrongFalsely : Prop := rackFallsRow.holds Try.pinned (OpenSpec.ofChange rackFallsWrong)

/-- 'kingpinlaw02.RackSure': WHATEVER THE INPUT: true; the input reads as it did. -/
def rackSureSpec : ChangeSpec := { name := "rackSure", fn := fun _ => fun
  | [d1, d2, d3] => { results := [.lit (.bool true)], args := [d1, d2, d3] }
  | _ => none }
def rackSureRow : OpenClaim := { program := "ytpekajnjjhibjaa", sum := "d5dbcf9fb80f95dbce7505b531cdd8135657986e338bbc3f749320d7d61a4c95", func := "kingpin/kingpinlaw02.RackSure", spec := "rackSure", unfollowed := true, recurses := true, plainKeys := false, apart := false }
def RackSureSaid : Prop := rackSureRow.holds Try.pinned (OpenSpec.ofChange rackSureSpec)

/-- ITS FALSE NEIGHBOUR: 'it returns false'. Refute it at one input. -/
def rackSureWrong : ChangeSpec := { name := "rackSure", fn := fun _ => fun
  | [d1, d2, d3] => { results := [.lit (.bool false)], args := [d1, d2, d3] }
  | _ => none }
def RackSureWrongFalsely : Prop := rackSureRow.holds Try.pinned (OpenSpec.ofChange rackSureWrong)

/-- 'kingpinlaw02.RackKinds': WHATEVER THE INPUT: true; the input reads as it did. -/
def rackKindsSpec : ChangeSpec := { name := "rackKinds", fn := fun _ => fun
  | [d1, d2] => { results := [.lit (.bool true)], args := [d1, d2] }
  | _ => none }
def rackKindsRow : OpenClaim := { program := "ytpekajnjjhibjaa", sum := "d5dbcf9fb80f95dbce7505b531cdd8135657986e338bbc3f749320d7d61a4c95", func := "kingpin/kingpinlaw02.RackKinds", spec := "rackKinds", unfollowed := true, recurses := true, plainKeys := false, apart := false }
def RackKindsSaid : Prop := rackKindsRow.holds Try.pinned (OpenSpec.ofChange rackKindsSpec)

/-- ITS FALSE NEIGHBOUR: 'it returns false'. Refute it at one input. -/
def rackKindsWrong : ChangeSpec := { name := "rackKinds", fn := fun _ => fun
  | [d1, d2] => { results := [.lit (.bool false)], args := [d1, d2] }
  | _ => none }
def RackKindsWrongFalsely : Prop := rackKindsRow.holds Try.pinned (OpenSpec.ofChange rackKindsWrong)

/-- 'kingpinlaw02.RackLaw': WHATEVER THE INPUT: true; the input reads as it did. -/
def rackLawSpec : ChangeSpec := { name := "rackLaw", fn := fun _ => fun
  | [d1, d2] => { results := [.lit (.bool true)], args := [d1, d2] }
  | _ => none }
def rackLawRow : OpenClaim := { program := "ytpekajnjjhibjaa", sum := "d5dbcf9fb80f95dbce7505b531cdd8135657986e338bbc3f749320d7d61a4c95", func := "kingpin/kingpinlaw02.RackLaw", spec := "rackLaw", unfollowed := true, recurses := true, plainKeys := false, apart := false }
def RackLawSaid : Prop := rackLawRow.holds Try.pinned (OpenSpec.ofChange rackLawSpec)

/-- ITS FALSE NEIGHBOUR: 'it returns false'. Refute it at one input. -/
def rackLawWrong : ChangeSpec := { name := "rackLaw", fn := fun _ => fun
  | [d1, d2] => { results := [.lit (.bool false)], args := [d1, d2] }
  | _ => none }
def RackLawWrongFalsely : Prop := rackLawRow.holds Try.pinned (OpenSpec.ofChange rackLawWrong)

/-- 'kingpinlaw02.RackHits': WHATEVER THE INPUT: true; the input reads as it did. -/
def rackHitsSpec : ChangeSpec := { name := "rackHits", fn := fun _ => fun
  | [d1, d2, d3, d4, d5] => { results := [.lit (.bool true)], args := [d1, d2, d3, d4, d5] }
  | _ => none }
def rackHitsRow : OpenClaim := { program := "ytpekajnjjhibjaa", sum := "d5dbcf9fb80f95dbce7505b531cdd8135657986e338bbc3f749320d7d61a4c95", func := "kingpin/kingpinlaw02.RackHits", spec := "rackHits", unfollowed := true, recurses := true, plainKeys := false, apart := false }
def RackHitsSaid : Prop := rackHitsRow.holds Try.pinned (OpenSpec.ofChange rackHitsSpec)

/-- ITS FALSE NEIGHBOUR: 'it returns false'. Refute it at one input. -/
def rackHitsWrong : ChangeSpec := { name := "rackHits", fn := fun _ => fun
  | [d1, d2, d3, d4, d5] => { results := [.lit (.bool false)], args := [d1, d2, d3, d4, d5] }
  | _ => none }
def RackHitsWrongFalsely : Prop := rackHitsRow.holds Try.pinned (OpenSpec.ofChange rackHitsWrong)

/-- 'kingpinlaw02.RackTurned': WHATEVER THE INPUT: true; the input reads as it did. -/
def rackTurnedSpec : ChangeSpec := { name := "rackTurned", fn := fun _ => fun
  | [d1, d2, d3, d4] => { results := [.lit (.bool true)], args := [d1, d2, d3, d4] }
  | _ => none }
def rackTurnedRow : OpenClaim := { program := "ytpekajnjjhibjaa", sum := "d5dbcf9fb80f95dbce7505b531cdd8135657986e338bbc3f749320d7d61a4c95", func := "kingpin/kingpinlaw02.RackTurned", spec := "rackTurned", unfollowed := true, recurses := true, plainKeys := false, apart := false }
def RackTurnedSaid : Prop := rackTurnedRow.holds Try.pinned (OpenSpec.ofChange rackTurnedSpec)

/-- ITS FALSE NEIGHBOUR: 'it returns false'. Refute it at one input. -/
def rackTurnedWrong : ChangeSpec := { name := "rackTurned", fn := fun _ => fun
  | [d1, d2, d3, d4] => { results := [.lit (.bool false)], args := [d1, d2, d3, d4] }
  | _ => none }
def RackTurnedWrongFalsely : Prop := rackTurnedRow.holds Try.pinned (OpenSpec.ofChange rackTurnedWrong)

/-- 'kingpinlaw02.RackMore': WHATEVER THE INPUT: true; the input reads as it did. -/
def rackMoreSpec : ChangeSpec := { name := "rackMore", fn := fun _ => fun
  | [d1, d2, d3, d4, d5] => { results := [.lit (.bool true)], args := [d1, d2, d3, d4, d5] }
  | _ => none }
def rackMoreRow : OpenClaim := { program := "ytpekajnjjhibjaa", sum := "d5dbcf9fb80f95dbce7505b531cdd8135657986e338bbc3f749320d7d61a4c95", func := "kingpin/kingpinlaw02.RackMore", spec := "rackMore", unfollowed := true, recurses := true, plainKeys := false, apart := false }
def RackMoreSaid : Prop := rackMoreRow.holds Try.pinned (OpenSpec.ofChange rackMoreSpec)

/-- ITS FALSE NEIGHBOUR: 'it returns false'. Refute it at one input. -/
def rackMoreWrong : ChangeSpec := { name := "rackMore", fn := fun _ => fun
  | [d1, d2, d3, d4, d5] => { results := [.lit (.bool false)], args := [d1, d2, d3, d4, d5] }
  | _ => none }
def RackMoreWrongFalsely : Prop := rackMoreRow.holds Try.pinned (OpenSpec.ofChange rackMoreWrong)

/-- 'kingpinlaw02.RackTruth': WHATEVER THE INPUT: true; the input reads as it did. -/
def rackTruthSpec : ChangeSpec := { name := "rackTruth", fn := fun _ => fun
  | [d1, d2, d3, d4] => { results := [.lit (.bool true)], args := [d1, d2, d3, d4] }
  | _ => none }
def rackTruthRow : OpenClaim := { program := "ytpekajnjjhibjaa", sum := "d5dbcf9fb80f95dbce7505b531cdd8135657986e338bbc3f749320d7d61a4c95", func := "kingpin/kingpinlaw02.RackTruth", spec := "rackTruth", unfollowed := true, recurses := true, plainKeys := false, apart := false }
def RackTruthSaid : Prop := rackTruthRow.holds Try.pinned (OpenSpec.ofChange rackTruthSpec)

/-- ITS FALSE NEIGHBOUR: 'it returns false'. Refute it at one input. -/
def rackTruthWrong : ChangeSpec := { name := "rackTruth", fn := fun _ => fun
  | [d1, d2, d3, d4] => { results := [.lit (.bool false)], args := [d1, d2, d3, d4] }
  | _ => none }
def RackTruthWrongFalsely : Prop := rackTruthRow.holds Try.pinned (OpenSpec.ofChange rackTruthWrong)

/-- 'kingpinlaw02.RackNames': WHATEVER THE INPUT: true; the input reads as it did. -/
def rackNamesSpec : ChangeSpec := { name := "rackNames", fn := fun _ => fun
  | [] => { results := [.lit (.bool true)], args := [] }
  | _ => none }
def rackNamesRow : OpenClaim := { program := "ytpekajnjjhibjaa", sum := "d5dbcf9fb80f95dbce7505b531cdd8135657986e338bbc3f749320d7d61a4c95", func := "kingpin/kingpinlaw02.RackNames", spec := "rackNames", unfollowed := true, recurses := true, plainKeys := false, apart := false }
def RackNamesSaid : Prop := rackNamesRow.holds Try.pinned (OpenSpec.ofChange rackNamesSpec)

/-- ITS FALSE NEIGHBOUR: 'it returns false'. Refute it at one input. -/
def rackNamesWrong : ChangeSpec := { name := "rackNames", fn := fun _ => fun
  | [] => { results := [.lit (.bool false)], args := [] }
  | _ => none }
def RackNamesWrongFalsely : Prop := rackNamesRow.holds Try.pinned (OpenSpec.ofChange rackNamesWrong)

/- THE SECOND FORM. 'bulk': how many values and letters a reading holds, each counted each time it is reached (what is shared counts as often as it is met; a slice's spare places count too). A statement '..UptoSaid' is the law's where the arguments, and the package variables that the reading takes, are together of bulk at most 1048576: NARROWER than '..Said'. Prove '..Said' where nothing that the law and all that it calls make is longer than what came in: it says more and counts as full. Else prove '..UptoSaid'. A law counts once. -/
mutual
def uptoBulk {H : Type} : DataW H → Nat
  | .lit (.string bytes) => bytes.length + 1
  | .lit _ => 1
  | .nil => 1
  | .ptr d => uptoBulk d + 1
  | .slice elems spare => uptoBulkAll elems + uptoBulkAll spare + 1
  | .agg parts => uptoBulkAll parts + 1
  | .iface _ d => uptoBulk d + 1
  | .map entries => uptoBulkEntries entries + 1
  | .held _ => 1
def uptoBulkAll {H : Type} : List (DataW H) → Nat
  | [] => 0
  | d :: r => uptoBulk d + uptoBulkAll r
def uptoBulkEntries {H : Type} : List (Lit × DataW H) → Nat
  | [] => 0
  | x :: r => uptoBulkEntry x + uptoBulkEntries r
def uptoBulkEntry {H : Type} : Lit × DataW H → Nat
  | (.string bytes, d) => bytes.length + uptoBulk d + 1
  | (_, d) => uptoBulk d + 1
 end
def uptoSmall : (H : Type) → List (DataW H) → Bool := fun _ ds => decide (uptoBulkAll ds ≤ 1048576)
def OpenSpec.upto (s : _root_.Go.ChangeSpec) : _root_.Go.OpenSpec := { _root_.Go.OpenSpec.ofChange s with cond := some uptoSmall }

/-- 'kingpinlaw02.RackWider', WHERE WHAT IT READS IS OF BULK AT MOST 1048576: true; the input reads as it did. -/
def rackWiderUptoRow : OpenClaim := { program := "ytpekajnjjhibjaa", sum := "d5dbcf9fb80f95dbce7505b531cdd8135657986e338bbc3f749320d7d61a4c95", func := "kingpin/kingpinlaw02.RackWider", spec := "rackWider", unfollowed := true, recurses := true, plainKeys := false, apart := false, narrowed := true }
def RackWiderUptoSaid : Prop := rackWiderUptoRow.holds Try.pinned (OpenSpec.upto rackWiderSpec)

/-- 'kingpinlaw02.RackConverts', WHERE WHAT IT READS IS OF BULK AT MOST 1048576: true; the input reads as it did. -/
def rackConvertsUptoRow : OpenClaim := { program := "ytpekajnjjhibjaa", sum := "d5dbcf9fb80f95dbce7505b531cdd8135657986e338bbc3f749320d7d61a4c95", func := "kingpin/kingpinlaw02.RackConverts", spec := "rackConverts", unfollowed := true, recurses := true, plainKeys := false, apart := false, narrowed := true }
def RackConvertsUptoSaid : Prop := rackConvertsUptoRow.holds Try.pinned (OpenSpec.upto rackConvertsSpec)

/-- 'kingpinlaw02.RackStraight', WHERE WHAT IT READS IS OF BULK AT MOST 1048576: true; the input reads as it did. -/
def rackStraightUptoRow : OpenClaim := { program := "ytpekajnjjhibjaa", sum := "d5dbcf9fb80f95dbce7505b531cdd8135657986e338bbc3f749320d7d61a4c95", func := "kingpin/kingpinlaw02.RackStraight", spec := "rackStraight", unfollowed := true, recurses := true, plainKeys := false, apart := false, narrowed := true }
def RackStraightUptoSaid : Prop := rackStraightUptoRow.holds Try.pinned (OpenSpec.upto rackStraightSpec)

/-- 'kingpinlaw02.RackFalls', WHERE WHAT IT READS IS OF BULK AT MOST 1048576: true; the input reads as it did. -/
def rackFallsUptoRow : OpenClaim := { program := "ytpekajnjjhibjaa", sum := "d5dbcf9fb80f95dbce7505b531cdd8135657986e338bbc3f749320d7d61a4c95", func := "kingpin/kingpinlaw02.RackFalls", spec := "rackFalls", unfollowed := true, recurses := true, plainKeys := false, apart := false, narrowed := true }
def RackFallsUptoSaid : Prop := rackFallsUptoRow.holds Try.pinned (OpenSpec.upto rackFallsSpec)

/-- 'kingpinlaw02.RackSure', WHERE WHAT IT READS IS OF BULK AT MOST 1048576: true; the input reads as it did. -/
def rackSureUptoRow : OpenClaim := { program := "ytpekajnjjhibjaa", sum := "d5dbcf9fb80f95dbce7505b531cdd8135657986e338bbc3f749320d7d61a4c95", func := "kingpin/kingpinlaw02.RackSure", spec := "rackSure", unfollowed := true, recurses := true, plainKeys := false, apart := false, narrowed := true }
def RackSureUptoSaid : Prop := rackSureUptoRow.holds Try.pinned (OpenSpec.upto rackSureSpec)

/-- 'kingpinlaw02.RackKinds', WHERE WHAT IT READS IS OF BULK AT MOST 1048576: true; the input reads as it did. -/
def rackKindsUptoRow : OpenClaim := { program := "ytpekajnjjhibjaa", sum := "d5dbcf9fb80f95dbce7505b531cdd8135657986e338bbc3f749320d7d61a4c95", func := "kingpin/kingpinlaw02.RackKinds", spec := "rackKinds", unfollowed := true, recurses := true, plainKeys := false, apart := false, narrowed := true }
def RackKindsUptoSaid : Prop := rackKindsUptoRow.holds Try.pinned (OpenSpec.upto rackKindsSpec)

/-- 'kingpinlaw02.RackLaw', WHERE WHAT IT READS IS OF BULK AT MOST 1048576: true; the input reads as it did. -/
def rackLawUptoRow : OpenClaim := { program := "ytpekajnjjhibjaa", sum := "d5dbcf9fb80f95dbce7505b531cdd8135657986e338bbc3f749320d7d61a4c95", func := "kingpin/kingpinlaw02.RackLaw", spec := "rackLaw", unfollowed := true, recurses := true, plainKeys := false, apart := false, narrowed := true }
def RackLawUptoSaid : Prop := rackLawUptoRow.holds Try.pinned (OpenSpec.upto rackLawSpec)

/-- 'kingpinlaw02.RackHits', WHERE WHAT IT READS IS OF BULK AT MOST 1048576: true; the input reads as it did. -/
def rackHitsUptoRow : OpenClaim := { program := "ytpekajnjjhibjaa", sum := "d5dbcf9fb80f95dbce7505b531cdd8135657986e338bbc3f749320d7d61a4c95", func := "kingpin/kingpinlaw02.RackHits", spec := "rackHits", unfollowed := true, recurses := true, plainKeys := false, apart := false, narrowed := true }
def RackHitsUptoSaid : Prop := rackHitsUptoRow.holds Try.pinned (OpenSpec.upto rackHitsSpec)

/-- 'kingpinlaw02.RackTurned', WHERE WHAT IT READS IS OF BULK AT MOST 1048576: true; the input reads as it did. -/
def rackTurnedUptoRow : OpenClaim := { program := "ytpekajnjjhibjaa", sum := "d5dbcf9fb80f95dbce7505b531cdd8135657986e338bbc3f749320d7d61a4c95", func := "kingpin/kingpinlaw02.RackTurned", spec := "rackTurned", unfollowed := true, recurses := true, plainKeys := false, apart := false, narrowed := true }
def RackTurnedUptoSaid : Prop := rackTurnedUptoRow.holds Try.pinned (OpenSpec.upto rackTurnedSpec)

/-- 'kingpinlaw02.RackMore', WHERE WHAT IT READS IS OF BULK AT MOST 1048576: true; the input reads as it did. -/
def rackMoreUptoRow : OpenClaim := { program := "ytpekajnjjhibjaa", sum := "d5dbcf9fb80f95dbce7505b531cdd8135657986e338bbc3f749320d7d61a4c95", func := "kingpin/kingpinlaw02.RackMore", spec := "rackMore", unfollowed := true, recurses := true, plainKeys := false, apart := false, narrowed := true }
def RackMoreUptoSaid : Prop := rackMoreUptoRow.holds Try.pinned (OpenSpec.upto rackMoreSpec)

/-- 'kingpinlaw02.RackTruth', WHERE WHAT IT READS IS OF BULK AT MOST 1048576: true; the input reads as it did. -/
def rackTruthUptoRow : OpenClaim := { program := "ytpekajnjjhibjaa", sum := "d5dbcf9fb80f95dbce7505b531cdd8135657986e338bbc3f749320d7d61a4c95", func := "kingpin/kingpinlaw02.RackTruth", spec := "rackTruth", unfollowed := true, recurses := true, plainKeys := false, apart := false, narrowed := true }
def RackTruthUptoSaid : Prop := rackTruthUptoRow.holds Try.pinned (OpenSpec.upto rackTruthSpec)

/-- 'kingpinlaw02.RackNames', WHERE WHAT IT READS IS OF BULK AT MOST 1048576: true; the input reads as it did. -/
def rackNamesUptoRow : OpenClaim := { program := "ytpekajnjjhibjaa", sum := "d5dbcf9fb80f95dbce7505b531cdd8135657986e338bbc3f749320d7d61a4c95", func := "kingpin/kingpinlaw02.RackNames", spec := "rackNames", unfollowed := true, recurses := true, plainKeys := false, apart := false, narrowed := true }
def RackNamesUptoSaid : Prop := rackNamesUptoRow.holds Try.pinned (OpenSpec.upto rackNamesSpec)

end Rows
end Go.Proofs.Ytpekajnjjhibjaa
