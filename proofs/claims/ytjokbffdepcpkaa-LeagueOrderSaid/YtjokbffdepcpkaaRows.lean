/-
  No cell of these rows narrows 'for every input' (looked for: loops, veiled, ifaces, maps, wideKeys, modest, calm, conditions, laid).
  DERIVED. THE GIVEN ROWS OF THIS SEAT. 12 by the template 'for every input the law returns true; each argument reads behind the call as it read before'; 0 by the template 'total and deterministic' (their statements: YtjokbffdepcpkaaTotals.lean).
  GIVEN WITH THE SEED: the statements are not yours to turn. If you find one false, say at which input.
  Laid BY PROGRAM, IN A SANDBOX (cutbox-rows.mjs): the forced cells as the released guide's own fill.sh prints them over the translation bf0e4a5b33f2129c… (all of the seat's roots in one cut). By AI agents, Wed Nov 11 2026. No macro, syntax, notation, axiom, sorry.
-/
import Derived.Test.YtjokbffdepcpkaaChecked
import GoSem.Claim
import GoSem.ClaimJoined
import GoSem.ClaimMapViews
import Derived.JoinedTies
import Derived.KernelRfl
namespace Go.Proofs.Ytjokbffdepcpkaa
/- THE CELL 'sum', in the pinned program and in every row, IS THE sha256 OF THE DUMP (.gsa) THAT YtjokbffdepcpkaaProg.lean LOADS. Nothing in Lean hashes anything: it is a label: what it is worth is what the hold of that sum in a sandbox is worth. -/
noncomputable def Try.pinned : Pinned := { name := "ytjokbffdepcpkaa", sum := "bf0e4a5b33f2129c65d42ba1151ecfd6d16898d15534943350dad0f8b5ceebc1", checked := Try.checked }
namespace Rows
def none {H : Type} : Left H := { results := [], args := [] }

/-- 'kingpinlaw08.LeagueRanks': WHATEVER THE INPUT: true; the input reads as it did. -/
def leagueRanksSpec : ChangeSpec := { name := "leagueRanks", fn := fun _ => fun
  | [d1, d2] => { results := [.lit (.bool true)], args := [d1, d2] }
  | _ => none }
def leagueRanksRow : OpenClaim := { program := "ytjokbffdepcpkaa", sum := "bf0e4a5b33f2129c65d42ba1151ecfd6d16898d15534943350dad0f8b5ceebc1", func := "kingpin/kingpinlaw08.LeagueRanks", spec := "leagueRanks", unfollowed := true, recurses := true, plainKeys := false, apart := false }
def LeagueRanksSaid : Prop := leagueRanksRow.holds Try.pinned (OpenSpec.ofChange leagueRanksSpec)

/-- ITS FALSE NEIGHBOUR: 'it returns false'. Refute it at one input. -/
def leagueRanksWrong : ChangeSpec := { name := "leagueRanks", fn := fun _ => fun
  | [d1, d2] => { results := [.lit (.bool false)], args := [d1, d2] }
  | _ => none }
def LeagueRanksWrongFalsely : Prop := leagueRanksRow.holds Try.pinned (OpenSpec.ofChange leagueRanksWrong)

/-- 'kingpinlaw08.LeagueAfters': WHATEVER THE INPUT: true; the input reads as it did. -/
def leagueAftersSpec : ChangeSpec := { name := "leagueAfters", fn := fun _ => fun
  | [d1, d2] => { results := [.lit (.bool true)], args := [d1, d2] }
  | _ => none }
def leagueAftersRow : OpenClaim := { program := "ytjokbffdepcpkaa", sum := "bf0e4a5b33f2129c65d42ba1151ecfd6d16898d15534943350dad0f8b5ceebc1", func := "kingpin/kingpinlaw08.LeagueAfters", spec := "leagueAfters", unfollowed := true, recurses := true, plainKeys := false, apart := false }
def LeagueAftersSaid : Prop := leagueAftersRow.holds Try.pinned (OpenSpec.ofChange leagueAftersSpec)

/-- ITS FALSE NEIGHBOUR: 'it returns false'. Refute it at one input. -/
def leagueAftersWrong : ChangeSpec := { name := "leagueAfters", fn := fun _ => fun
  | [d1, d2] => { results := [.lit (.bool false)], args := [d1, d2] }
  | _ => none }
def LeagueAftersWrongFalsely : Prop := leagueAftersRow.holds Try.pinned (OpenSpec.ofChange leagueAftersWrong)

/-- 'kingpinlaw08.LeagueEvenest': WHATEVER THE INPUT: true; the input reads as it did. -/
def leagueEvenestSpec : ChangeSpec := { name := "leagueEvenest", fn := fun _ => fun
  | [d1, d2, d3] => { results := [.lit (.bool true)], args := [d1, d2, d3] }
  | _ => none }
def leagueEvenestRow : OpenClaim := { program := "ytjokbffdepcpkaa", sum := "bf0e4a5b33f2129c65d42ba1151ecfd6d16898d15534943350dad0f8b5ceebc1", func := "kingpin/kingpinlaw08.LeagueEvenest", spec := "leagueEvenest", unfollowed := true, recurses := true, plainKeys := false, apart := false }
def LeagueEvenestSaid : Prop := leagueEvenestRow.holds Try.pinned (OpenSpec.ofChange leagueEvenestSpec)

/-- ITS FALSE NEIGHBOUR: 'it returns false'. Refute it at one input. -/
def leagueEvenestWrong : ChangeSpec := { name := "leagueEvenest", fn := fun _ => fun
  | [d1, d2, d3] => { results := [.lit (.bool false)], args := [d1, d2, d3] }
  | _ => none }
def LeagueEvenestWrongFalsely : Prop := leagueEvenestRow.holds Try.pinned (OpenSpec.ofChange leagueEvenestWrong)

/-- 'kingpinlaw08.LeagueRules': WHATEVER THE INPUT: true; the input reads as it did. -/
def leagueRulesSpec : ChangeSpec := { name := "leagueRules", fn := fun _ => fun
  | [d1, d2, d3] => { results := [.lit (.bool true)], args := [d1, d2, d3] }
  | _ => none }
def leagueRulesRow : OpenClaim := { program := "ytjokbffdepcpkaa", sum := "bf0e4a5b33f2129c65d42ba1151ecfd6d16898d15534943350dad0f8b5ceebc1", func := "kingpin/kingpinlaw08.LeagueRules", spec := "leagueRules", unfollowed := true, recurses := true, plainKeys := false, apart := false }
def LeagueRulesSaid : Prop := leagueRulesRow.holds Try.pinned (OpenSpec.ofChange leagueRulesSpec)

/-- ITS FALSE NEIGHBOUR: 'it returns false'. Refute it at one input. -/
def leagueRulesWrong : ChangeSpec := { name := "leagueRules", fn := fun _ => fun
  | [d1, d2, d3] => { results := [.lit (.bool false)], args := [d1, d2, d3] }
  | _ => none }
def LeagueRulesWrongFalsely : Prop := leagueRulesRow.holds Try.pinned (OpenSpec.ofChange leagueRulesWrong)

/-- 'kingpinlaw08.LeagueGives': WHATEVER THE INPUT: true; the input reads as it did. -/
def leagueGivesSpec : ChangeSpec := { name := "leagueGives", fn := fun _ => fun
  | [d1, d2] => { results := [.lit (.bool true)], args := [d1, d2] }
  | _ => none }
def leagueGivesRow : OpenClaim := { program := "ytjokbffdepcpkaa", sum := "bf0e4a5b33f2129c65d42ba1151ecfd6d16898d15534943350dad0f8b5ceebc1", func := "kingpin/kingpinlaw08.LeagueGives", spec := "leagueGives", unfollowed := true, recurses := true, plainKeys := false, apart := false }
def LeagueGivesSaid : Prop := leagueGivesRow.holds Try.pinned (OpenSpec.ofChange leagueGivesSpec)

/-- ITS FALSE NEIGHBOUR: 'it returns false'. Refute it at one input. -/
def leagueGivesWrong : ChangeSpec := { name := "leagueGives", fn := fun _ => fun
  | [d1, d2] => { results := [.lit (.bool false)], args := [d1, d2] }
  | _ => none }
def LeagueGivesWrongFalsely : Prop := leagueGivesRow.holds Try.pinned (OpenSpec.ofChange leagueGivesWrong)

/-- 'kingpinlaw08.LeagueReasons': WHATEVER THE INPUT: true; the input reads as it did. -/
def leagueReasonsSpec : ChangeSpec := { name := "leagueReasons", fn := fun _ => fun
  | [d1, d2, d3] => { results := [.lit (.bool true)], args := [d1, d2, d3] }
  | _ => none }
def leagueReasonsRow : OpenClaim := { program := "ytjokbffdepcpkaa", sum := "bf0e4a5b33f2129c65d42ba1151ecfd6d16898d15534943350dad0f8b5ceebc1", func := "kingpin/kingpinlaw08.LeagueReasons", spec := "leagueReasons", unfollowed := true, recurses := true, plainKeys := false, apart := false }
def LeagueReasonsSaid : Prop := leagueReasonsRow.holds Try.pinned (OpenSpec.ofChange leagueReasonsSpec)

/-- ITS FALSE NEIGHBOUR: 'it returns false'. Refute it at one input. -/
def leagueReasonsWrong : ChangeSpec := { name := "leagueReasons", fn := fun _ => fun
  | [d1, d2, d3] => { results := [.lit (.bool false)], args := [d1, d2, d3] }
  | _ => none }
def LeagueReasonsWrongFalsely : Prop := leagueReasonsRow.holds Try.pinned (OpenSpec.ofChange leagueReasonsWrong)

/-- 'kingpinlaw08.LeagueOrder': WHATEVER THE INPUT: true; the input reads as it did. -/
def leagueOrderSpec : ChangeSpec := { name := "leagueOrder", fn := fun _ => fun
  | [d1, d2, d3] => { results := [.lit (.bool true)], args := [d1, d2, d3] }
  | _ => none }
def leagueOrderRow : OpenClaim := { program := "ytjokbffdepcpkaa", sum := "bf0e4a5b33f2129c65d42ba1151ecfd6d16898d15534943350dad0f8b5ceebc1", func := "kingpin/kingpinlaw08.LeagueOrder", spec := "leagueOrder", unfollowed := true, recurses := true, plainKeys := false, apart := false }
def LeagueOrderSaid : Prop := leagueOrderRow.holds Try.pinned (OpenSpec.ofChange leagueOrderSpec)

/-- ITS FALSE NEIGHBOUR: 'it returns false'. Refute it at one input. -/
def leagueOrderWrong : ChangeSpec := { name := "leagueOrder", fn := fun _ => fun
  | [d1, d2, d3] => { results := [.lit (.bool false)], args := [d1, d2, d3] }
  | _ => none }
def LeagueOrderWrongFalsely : Prop := leagueOrderRow.holds Try.pinned (OpenSpec.ofChange leagueOrderWrong)

/-- 'kingpinlaw08.LeagueTruth': WHATEVER THE INPUT: true; the input reads as it did. -/
def leagueTruthSpec : ChangeSpec := { name := "leagueTruth", fn := fun _ => fun
  | [d1, d2] => { results := [.lit (.bool true)], args := [d1, d2] }
  | _ => none }
def leagueTruthRow : OpenClaim := { program := "ytjokbffdepcpkaa", sum := "bf0e4a5b33f2129c65d42ba1151ecfd6d16898d15534943350dad0f8b5ceebc1", func := "kingpin/kingpinlaw08.LeagueTruth", spec := "leagueTruth", unfollowed := true, recurses := true, plainKeys := false, apart := false }
def LeagueTruthSaid : Prop := leagueTruthRow.holds Try.pinned (OpenSpec.ofChange leagueTruthSpec)

/-- ITS FALSE NEIGHBOUR: 'it returns false'. Refute it at one input. -/
def leagueTruthWrong : ChangeSpec := { name := "leagueTruth", fn := fun _ => fun
  | [d1, d2] => { results := [.lit (.bool false)], args := [d1, d2] }
  | _ => none }
def LeagueTruthWrongFalsely : Prop := leagueTruthRow.holds Try.pinned (OpenSpec.ofChange leagueTruthWrong)

/-- 'kingpinlaw08.LeaguePlayed': WHATEVER THE INPUT: true; the input reads as it did. -/
def leaguePlayedSpec : ChangeSpec := { name := "leaguePlayed", fn := fun _ => fun
  | [d1, d2, d3, d4] => { results := [.lit (.bool true)], args := [d1, d2, d3, d4] }
  | _ => none }
def leaguePlayedRow : OpenClaim := { program := "ytjokbffdepcpkaa", sum := "bf0e4a5b33f2129c65d42ba1151ecfd6d16898d15534943350dad0f8b5ceebc1", func := "kingpin/kingpinlaw08.LeaguePlayed", spec := "leaguePlayed", unfollowed := true, recurses := true, plainKeys := false, apart := false }
def LeaguePlayedSaid : Prop := leaguePlayedRow.holds Try.pinned (OpenSpec.ofChange leaguePlayedSpec)

/-- ITS FALSE NEIGHBOUR: 'it returns false'. Refute it at one input. -/
def leaguePlayedWrong : ChangeSpec := { name := "leaguePlayed", fn := fun _ => fun
  | [d1, d2, d3, d4] => { results := [.lit (.bool false)], args := [d1, d2, d3, d4] }
  | _ => none }
def LeaguePlayedWrongFalsely : Prop := leaguePlayedRow.holds Try.pinned (OpenSpec.ofChange leaguePlayedWrong)

/-- 'kingpinlaw08.LeagueFirsts': WHATEVER THE INPUT: true; the input reads as it did. -/
def leagueFirstsSpec : ChangeSpec := { name := "leagueFirsts", fn := fun _ => fun
  | [d1, d2] => { results := [.lit (.bool true)], args := [d1, d2] }
  | _ => none }
def leagueFirstsRow : OpenClaim := { program := "ytjokbffdepcpkaa", sum := "bf0e4a5b33f2129c65d42ba1151ecfd6d16898d15534943350dad0f8b5ceebc1", func := "kingpin/kingpinlaw08.LeagueFirsts", spec := "leagueFirsts", unfollowed := true, recurses := true, plainKeys := false, apart := false }
def LeagueFirstsSaid : Prop := leagueFirstsRow.holds Try.pinned (OpenSpec.ofChange leagueFirstsSpec)

/-- ITS FALSE NEIGHBOUR: 'it returns false'. Refute it at one input. -/
def leagueFirstsWrong : ChangeSpec := { name := "leagueFirsts", fn := fun _ => fun
  | [d1, d2] => { results := [.lit (.bool false)], args := [d1, d2] }
  | _ => none }
def LeagueFirstsWrongFalsely : Prop := leagueFirstsRow.holds Try.pinned (OpenSpec.ofChange leagueFirstsWrong)

/-- 'kingpinlaw08.LeagueShown': WHATEVER THE INPUT: true; the input reads as it did. -/
def leagueShownSpec : ChangeSpec := { name := "leagueShown", fn := fun _ => fun
  | [d1, d2] => { results := [.lit (.bool true)], args := [d1, d2] }
  | _ => none }
def leagueShownRow : OpenClaim := { program := "ytjokbffdepcpkaa", sum := "bf0e4a5b33f2129c65d42ba1151ecfd6d16898d15534943350dad0f8b5ceebc1", func := "kingpin/kingpinlaw08.LeagueShown", spec := "leagueShown", unfollowed := true, recurses := true, plainKeys := false, apart := false }
def LeagueShownSaid : Prop := leagueShownRow.holds Try.pinned (OpenSpec.ofChange leagueShownSpec)

/-- ITS FALSE NEIGHBOUR: 'it returns false'. Refute it at one input. -/
def leagueShownWrong : ChangeSpec := { name := "leagueShown", fn := fun _ => fun
  | [d1, d2] => { results := [.lit (.bool false)], args := [d1, d2] }
  | _ => none }
def LeagueShownWrongFalsely : Prop := leagueShownRow.holds Try.pinned (OpenSpec.ofChange leagueShownWrong)

/-- 'kingpinlaw08.LeagueNames': WHATEVER THE INPUT: true; the input reads as it did. -/
def leagueNamesSpec : ChangeSpec := { name := "leagueNames", fn := fun _ => fun
  | [] => { results := [.lit (.bool true)], args := [] }
  | _ => none }
def leagueNamesRow : OpenClaim := { program := "ytjokbffdepcpkaa", sum := "bf0e4a5b33f2129c65d42ba1151ecfd6d16898d15534943350dad0f8b5ceebc1", func := "kingpin/kingpinlaw08.LeagueNames", spec := "leagueNames", unfollowed := true, recurses := true, plainKeys := false, apart := false }
def LeagueNamesSaid : Prop := leagueNamesRow.holds Try.pinned (OpenSpec.ofChange leagueNamesSpec)

/-- ITS FALSE NEIGHBOUR: 'it returns false'. Refute it at one input. -/
def leagueNamesWrong : ChangeSpec := { name := "leagueNames", fn := fun _ => fun
  | [] => { results := [.lit (.bool false)], args := [] }
  | _ => none }
def LeagueNamesWrongFalsely : Prop := leagueNamesRow.holds Try.pinned (OpenSpec.ofChange leagueNamesWrong)

/- THE SECOND FORM. 'bulk': how many values and letters a reading holds, each counted each time it is reached (what is shared counts as often as it is met; a slice's spare places count too). A statement '..UptoSaid' is the law's where the arguments, and the package variables that the reading takes, are together of bulk at most 1048576: NARROWER than '..Said'. Prove '..Said' where nothing that the law and all that it calls make is longer than what came in: it says more and counts as full. Else prove '..UptoSaid'. A law counts once. -/
mutual
def uptoBulk {H : Type} : DataW H → Nat
  | .lit (.string bytes) => bytes.length + 1
  | .lit _ => 1
  | .nil => 1
  | .ptr d => uptoBulk d + 1
  | .slice elems spare => uptoBulkAll elems + uptoBulkAll spare + 1
  | .agg parts => uptoBulkAll parts + 1
  | .iface _ d => uptoBulk d + 1
  | .map entries => uptoBulkEntries entries + 1
  | .held _ => 1
def uptoBulkAll {H : Type} : List (DataW H) → Nat
  | [] => 0
  | d :: r => uptoBulk d + uptoBulkAll r
def uptoBulkEntries {H : Type} : List (Lit × DataW H) → Nat
  | [] => 0
  | x :: r => uptoBulkEntry x + uptoBulkEntries r
def uptoBulkEntry {H : Type} : Lit × DataW H → Nat
  | (.string bytes, d) => bytes.length + uptoBulk d + 1
  | (_, d) => uptoBulk d + 1
 end
def uptoSmall : (H : Type) → List (DataW H) → Bool := fun _ ds => decide (uptoBulkAll ds ≤ 1048576)
def OpenSpec.upto (s : _root_.Go.ChangeSpec) : _root_.Go.OpenSpec := { _root_.Go.OpenSpec.ofChange s with cond := some uptoSmall }

/-- 'kingpinlaw08.LeagueRanks', WHERE WHAT IT READS IS OF BULK AT MOST 1048576: true; the input reads as it did. -/
def leagueRanksUptoRow : OpenClaim := { program := "ytjokbffdepcpkaa", sum := "bf0e4a5b33f2129c65d42ba1151ecfd6d16898d15534943350dad0f8b5ceebc1", func := "kingpin/kingpinlaw08.LeagueRanks", spec := "leagueRanks", unfollowed := true, recurses := true, plainKeys := false, apart := false, narrowed := true }
def LeagueRanksUptoSaid : Prop := leagueRanksUptoRow.holds Try.pinned (OpenSpec.upto leagueRanksSpec)

/-- 'kingpinlaw08.LeagueAfters', WHERE WHAT IT READS IS OF BULK AT MOST 1048576: true; the input reads as it did. -/
def leagueAftersUptoRow : OpenClaim := { program := "ytjokbffdepcpkaa", sum := "bf0e4a5b33f2129c65d42ba1151ecfd6d16898d15534943350dad0f8b5ceebc1", func := "kingpin/kingpinlaw08.LeagueAfters", spec := "leagueAfters", unfollowed := true, recurses := true, plainKeys := false, apart := false, narrowed := true }
def LeagueAftersUptoSaid : Prop := leagueAftersUptoRow.holds Try.pinned (OpenSpec.upto leagueAftersSpec)

/-- 'kingpinlaw08.LeagueEvenest', WHERE WHAT IT READS IS OF BULK AT MOST 1048576: true; the input reads as it did. -/
def leagueEvenestUptoRow : OpenClaim := { program := "ytjokbffdepcpkaa", sum := "bf0e4a5b33f2129c65d42ba1151ecfd6d16898d15534943350dad0f8b5ceebc1", func := "kingpin/kingpinlaw08.LeagueEvenest", spec := "leagueEvenest", unfollowed := true, recurses := true, plainKeys := false, apart := false, narrowed := true }
def LeagueEvenestUptoSaid : Prop := leagueEvenestUptoRow.holds Try.pinned (OpenSpec.upto leagueEvenestSpec)

/-- 'kingpinlaw08.LeagueRules', WHERE WHAT IT READS IS OF BULK AT MOST 1048576: true; the input reads as it did. -/
def leagueRulesUptoRow : OpenClaim := { program := "ytjokbffdepcpkaa", sum := "bf0e4a5b33f2129c65d42ba1151ecfd6d16898d15534943350dad0f8b5ceebc1", func := "kingpin/kingpinlaw08.LeagueRules", spec := "leagueRules", unfollowed := true, recurses := true, plainKeys := false, apart := false, narrowed := true }
def LeagueRulesUptoSaid : Prop := leagueRulesUptoRow.holds Try.pinned (OpenSpec.upto leagueRulesSpec)

/-- 'kingpinlaw08.LeagueGives', WHERE WHAT IT READS IS OF BULK AT MOST 1048576: true; the input reads as it did. -/
def leagueGivesUptoRow : OpenClaim := { program := "ytjokbffdepcpkaa", sum := "bf0e4a5b33f2129c65d42ba1151ecfd6d16898d15534943350dad0f8b5ceebc1", func := "kingpin/kingpinlaw08.LeagueGives", spec := "leagueGives", unfollowed := true, recurses := true, plainKeys := false, apart := false, narrowed := true }
def LeagueGivesUptoSaid : Prop := leagueGivesUptoRow.holds Try.pinned (OpenSpec.upto leagueGivesSpec)

/-- 'kingpinlaw08.LeagueReasons', WHERE WHAT IT READS IS OF BULK AT MOST 1048576: true; the input reads as it did. -/
def leagueReasonsUptoRow : OpenClaim := { program := "ytjokbffdepcpkaa", sum := "bf0e4a5b33f2129c65d42ba1151ecfd6d16898d15534943350dad0f8b5ceebc1", func := "kingpin/kingpinlaw08.LeagueReasons", spec := "leagueReasons", unfollowed := true, recurses := true, plainKeys := false, apart := false, narrowed := true }
def LeagueReasonsUptoSaid : Prop := leagueReasonsUptoRow.holds Try.pinned (OpenSpec.upto leagueReasonsSpec)

/-- 'kingpinlaw08.LeagueOrder', WHERE WHAT IT READS IS OF BULK AT MOST 1048576: true; the input reads as it did. -/
def leagueOrderUptoRow : OpenClaim := { program := "ytjokbffdepcpkaa", sum := "bf0e4a5b33f2129c65d42ba1151ecfd6d16898d15534943350dad0f8b5ceebc1", func := "kingpin/kingpinlaw08.LeagueOrder", spec := "leagueOrder", unfollowed := true, recurses := true, plainKeys := false, apart := false, narrowed := true }
def LeagueOrderUptoSaid : Prop := leagueOrderUptoRow.holds Try.pinned (OpenSpec.upto leagueOrderSpec)

/-- 'kingpinlaw08.LeagueTruth', WHERE WHAT IT READS IS OF BULK AT MOST 1048576: true; the input reads as it did. -/
def leagueTruthUptoRow : OpenClaim := { program := "ytjokbffdepcpkaa", sum := "bf0e4a5b33f2129c65d42ba1151ecfd6d16898d15534943350dad0f8b5ceebc1", func := "kingpin/kingpinlaw08.LeagueTruth", spec := "leagueTruth", unfollowed := true, recurses := true, plainKeys := false, apart := false, narrowed := true }
def LeagueTruthUptoSaid : Prop := leagueTruthUptoRow.holds Try.pinned (OpenSpec.upto leagueTruthSpec)

/-- 'kingpinlaw08.LeaguePlayed', WHERE WHAT IT READS IS OF BULK AT MOST 1048576: true; the input reads as it did. -/
def leaguePlayedUptoRow : OpenClaim := { program := "ytjokbffdepcpkaa", sum := "bf0e4a5b33f2129c65d42ba1151ecfd6d16898d15534943350dad0f8b5ceebc1", func := "kingpin/kingpinlaw08.LeaguePlayed", spec := "leaguePlayed", unfollowed := true, recurses := true, plainKeys := false, apart := false, narrowed := true }
def LeaguePlayedUptoSaid : Prop := leaguePlayedUptoRow.holds Try.pinned (OpenSpec.upto leaguePlayedSpec)

/-- 'kingpinlaw08.LeagueFirsts', WHERE WHAT IT READS IS OF BULK AT MOST 1048576: true; the input reads as it did. -/
def leagueFirstsUptoRow : OpenClaim := { program := "ytjokbffdepcpkaa", sum := "bf0e4a5b33f2129c65d42ba1151ecfd6d16898d15534943350dad0f8b5ceebc1", func := "kingpin/kingpinlaw08.LeagueFirsts", spec := "leagueFirsts", unfollowed := true, recurses := true, plainKeys := false, apart := false, narrowed := true }
def LeagueFirstsUptoSaid : Prop := leagueFirstsUptoRow.holds Try.pinned (OpenSpec.upto leagueFirstsSpec)

/-- 'kingpinlaw08.LeagueShown', WHERE WHAT IT READS IS OF BULK AT MOST 1048576: true; the input reads as it did. -/
def leagueShownUptoRow : OpenClaim := { program := "ytjokbffdepcpkaa", sum := "bf0e4a5b33f2129c65d42ba1151ecfd6d16898d15534943350dad0f8b5ceebc1", func := "kingpin/kingpinlaw08.LeagueShown", spec := "leagueShown", unfollowed := true, recurses := true, plainKeys := false, apart := false, narrowed := true }
def LeagueShownUptoSaid : Prop := leagueShownUptoRow.holds Try.pinned (OpenSpec.upto leagueShownSpec)

/-- 'kingpinlaw08.LeagueNames', WHERE WHAT IT READS IS OF BULK AT MOST 1048576: true; the input reads as it did. -/
def leagueNamesUptoRow : OpenClaim := { program := "ytjokbffdepcpkaa", sum := "bf0e4a5b33f2129c65d42ba1151ecfd6d16898d15534943350dad0f8b5ceebc1", func := "kingpin/kingpinlaw08.LeagueNames", spec := "leagueNames", unfollowed := true, recurses := true, plainKeys := false, apart := false, narrowed := true }
def LeagueNamesUptoSaid : Prop := leagueNamesUptoRow.holds Try.pinned (OpenSpec.upto leagueNamesSpec)

end Rows
end Go.Proofs.Ytjokbffdepcpkaa
