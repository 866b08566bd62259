/-
  No cell of these rows narrows 'for every input' (looked for: loops, veiled, ifaces, maps, wideKeys, modest, calm, conditions, laid).
  DERIVED. THE GIVEN ROWS OF THIS SEAT. 3 by the template 'for every input the law returns true; each argument reads behind the call as it read before'; 0 by the template 'total and deterministic' (their statements: YtenpiinkbfancaaTotals.lean).
  GIVEN WITH THE SEED: the statements are not yours to turn. If you find one false, say at which input.
  Laid BY PROGRAM, IN A SANDBOX (cutbox-rows.mjs): the forced cells as the released guide's own fill.sh prints them over the translation 5fcd1b6e0aa60cdc… (all of the seat's roots in one cut). By AI agents, Wed Nov 11 2026. No macro, syntax, notation, axiom, sorry.
-/
import Derived.Test.YtenpiinkbfancaaChecked
import GoSem.Claim
import GoSem.ClaimJoined
import GoSem.ClaimMapViews
import Derived.JoinedTies
import Derived.KernelRfl
namespace Go.Proofs.Ytenpiinkbfancaa
/- THE CELL 'sum', in the pinned program and in every row, IS THE sha256 OF THE DUMP (.gsa) THAT YtenpiinkbfancaaProg.lean LOADS. Nothing in Lean hashes anything: it is a label: what it is worth is what the hold of that sum in a sandbox is worth. -/
noncomputable def Try.pinned : Pinned := { name := "ytenpiinkbfancaa", sum := "5fcd1b6e0aa60cdc8fc23f2aa3388b1adff772c871178e9498837cfbcaa81748", checked := Try.checked }
namespace Rows
def none {H : Type} : Left H := { results := [], args := [] }

/-- 'kingpintop.TopCounted': WHATEVER THE INPUT: true; the input reads as it did. -/
def topCountedSpec : ChangeSpec := { name := "topCounted", fn := fun _ => fun
  | [d1, d2, d3] => { results := [.lit (.bool true)], args := [d1, d2, d3] }
  | _ => none }
def topCountedRow : OpenClaim := { program := "ytenpiinkbfancaa", sum := "5fcd1b6e0aa60cdc8fc23f2aa3388b1adff772c871178e9498837cfbcaa81748", func := "kingpin/kingpintop.TopCounted", spec := "topCounted", unfollowed := true, recurses := true, plainKeys := false, apart := false }
def TopCountedSaid : Prop := topCountedRow.holds Try.pinned (OpenSpec.ofChange topCountedSpec)

/-- ITS FALSE NEIGHBOUR: 'it returns false'. Refute it at one input. -/
def topCountedWrong : ChangeSpec := { name := "topCounted", fn := fun _ => fun
  | [d1, d2, d3] => { results := [.lit (.bool false)], args := [d1, d2, d3] }
  | _ => none }
def TopCountedWrongFalsely : Prop := topCountedRow.holds Try.pinned (OpenSpec.ofChange topCountedWrong)

/-- 'kingpintop.TopStood': WHATEVER THE INPUT: true; the input reads as it did. -/
def topStoodSpec : ChangeSpec := { name := "topStood", fn := fun _ => fun
  | [d1, d2, d3, d4] => { results := [.lit (.bool true)], args := [d1, d2, d3, d4] }
  | _ => none }
def topStoodRow : OpenClaim := { program := "ytenpiinkbfancaa", sum := "5fcd1b6e0aa60cdc8fc23f2aa3388b1adff772c871178e9498837cfbcaa81748", func := "kingpin/kingpintop.TopStood", spec := "topStood", unfollowed := true, recurses := true, plainKeys := false, apart := false }
def TopStoodSaid : Prop := topStoodRow.holds Try.pinned (OpenSpec.ofChange topStoodSpec)

/-- ITS FALSE NEIGHBOUR: 'it returns false'. Refute it at one input. -/
def topStoodWrong : ChangeSpec := { name := "topStood", fn := fun _ => fun
  | [d1, d2, d3, d4] => { results := [.lit (.bool false)], args := [d1, d2, d3, d4] }
  | _ => none }
def TopStoodWrongFalsely : Prop := topStoodRow.holds Try.pinned (OpenSpec.ofChange topStoodWrong)

/-- 'kingpintop.TopLaid': WHATEVER THE INPUT: true; the input reads as it did. -/
def topLaidSpec : ChangeSpec := { name := "topLaid", fn := fun _ => fun
  | [d1, d2, d3, d4, d5] => { results := [.lit (.bool true)], args := [d1, d2, d3, d4, d5] }
  | _ => none }
def topLaidRow : OpenClaim := { program := "ytenpiinkbfancaa", sum := "5fcd1b6e0aa60cdc8fc23f2aa3388b1adff772c871178e9498837cfbcaa81748", func := "kingpin/kingpintop.TopLaid", spec := "topLaid", unfollowed := true, recurses := true, plainKeys := false, apart := false }
def TopLaidSaid : Prop := topLaidRow.holds Try.pinned (OpenSpec.ofChange topLaidSpec)

/-- ITS FALSE NEIGHBOUR: 'it returns false'. Refute it at one input. -/
def topLaidWrong : ChangeSpec := { name := "topLaid", fn := fun _ => fun
  | [d1, d2, d3, d4, d5] => { results := [.lit (.bool false)], args := [d1, d2, d3, d4, d5] }
  | _ => none }
def TopLaidWrongFalsely : Prop := topLaidRow.holds Try.pinned (OpenSpec.ofChange topLaidWrong)

/- THE SECOND FORM. 'bulk': how many values and letters a reading holds, each counted each time it is reached (what is shared counts as often as it is met; a slice's spare places count too). A statement '..UptoSaid' is the law's where the arguments, and the package variables that the reading takes, are together of bulk at most 1048576: NARROWER than '..Said'. Prove '..Said' where nothing that the law and all that it calls make is longer than what came in: it says more and counts as full. Else prove '..UptoSaid'. A law counts once. -/
mutual
def uptoBulk {H : Type} : DataW H → Nat
  | .lit (.string bytes) => bytes.length + 1
  | .lit _ => 1
  | .nil => 1
  | .ptr d => uptoBulk d + 1
  | .slice elems spare => uptoBulkAll elems + uptoBulkAll spare + 1
  | .agg parts => uptoBulkAll parts + 1
  | .iface _ d => uptoBulk d + 1
  | .map entries => uptoBulkEntries entries + 1
  | .held _ => 1
def uptoBulkAll {H : Type} : List (DataW H) → Nat
  | [] => 0
  | d :: r => uptoBulk d + uptoBulkAll r
def uptoBulkEntries {H : Type} : List (Lit × DataW H) → Nat
  | [] => 0
  | x :: r => uptoBulkEntry x + uptoBulkEntries r
def uptoBulkEntry {H : Type} : Lit × DataW H → Nat
  | (.string bytes, d) => bytes.length + uptoBulk d + 1
  | (_, d) => uptoBulk d + 1
 end
def uptoSmall : (H : Type) → List (DataW H) → Bool := fun _ ds => decide (uptoBulkAll ds ≤ 1048576)
def OpenSpec.upto (s : _root_.Go.ChangeSpec) : _root_.Go.OpenSpec := { _root_.Go.OpenSpec.ofChange s with cond := some uptoSmall }

/-- 'kingpintop.TopCounted', WHERE WHAT IT READS IS OF BULK AT MOST 1048576: true; the input reads as it did. -/
def topCountedUptoRow : OpenClaim := { program := "ytenpiinkbfancaa", sum := "5fcd1b6e0aa60cdc8fc23f2aa3388b1adff772c871178e9498837cfbcaa81748", func := "kingpin/kingpintop.TopCounted", spec := "topCounted", unfollowed := true, recurses := true, plainKeys := false, apart := false, narrowed := true }
def TopCountedUptoSaid : Prop := topCountedUptoRow.holds Try.pinned (OpenSpec.upto topCountedSpec)

/-- 'kingpintop.TopStood', WHERE WHAT IT READS IS OF BULK AT MOST 1048576: true; the input reads as it did. -/
def topStoodUptoRow : OpenClaim := { program := "ytenpiinkbfancaa", sum := "5fcd1b6e0aa60cdc8fc23f2aa3388b1adff772c871178e9498837cfbcaa81748", func := "kingpin/kingpintop.TopStood", spec := "topStood", unfollowed := true, recurses := true, plainKeys := false, apart := false, narrowed := true }
def TopStoodUptoSaid : Prop := topStoodUptoRow.holds Try.pinned (OpenSpec.upto topStoodSpec)

/-- 'kingpintop.TopLaid', WHERE WHAT IT READS IS OF BULK AT MOST 1048576: true; the input reads as it did. -/
def topLaidUptoRow : OpenClaim := { program := "ytenpiinkbfancaa", sum := "5fcd1b6e0aa60cdc8fc23f2aa3388b1adff772c871178e9498837cfbcaa81748", func := "kingpin/kingpintop.TopLaid", spec := "topLaid", unfollowed := true, recurses := true, plainKeys := false, apart := false, narrowed := true }
def TopLaidUptoSaid : Prop := topLaidUptoRow.holds Try.pinned (OpenSpec.upto topLaidSpec)

end Rows
end Go.Proofs.Ytenpiinkbfancaa
