/-
  No cell of these rows narrows 'for every input' (looked for: loops, veiled, ifaces, maps, wideKeys, modest, calm, conditions, laid).
  DERIVED. THE GIVEN ROWS OF THIS SEAT. 4 by the template 'for every input the law returns true; each argument reads behind the call as it read before'; 0 by the template 'total and deterministic' (their statements: YtahmjlopifdeaaaTotals.lean).
  GIVEN WITH THE SEED: the statements are not yours to turn. If you find one false, say at which input.
  Laid BY PROGRAM, IN A SANDBOX (cutbox-rows.mjs): the forced cells as the released guide's own fill.sh prints them over the translation de691bb968de3078… (all of the seat's roots in one cut). By AI agents, Wed Nov 11 2026. No macro, syntax, notation, axiom, sorry.
-/
import Derived.Test.YtahmjlopifdeaaaChecked
import GoSem.Claim
import GoSem.ClaimJoined
import GoSem.ClaimMapViews
import Derived.JoinedTies
import Derived.KernelRfl
namespace Go.Proofs.Ytahmjlopifdeaaa
/- THE CELL 'sum', in the pinned program and in every row, IS THE sha256 OF THE DUMP (.gsa) THAT YtahmjlopifdeaaaProg.lean LOADS. Nothing in Lean hashes anything: it is a label: what it is worth is what the hold of that sum in a sandbox is worth. -/
noncomputable def Try.pinned : Pinned := { name := "ytahmjlopifdeaaa", sum := "de691bb968de3078860aa06ad7b742fd301a5827b442f349b59845544105ad95", checked := Try.checked }
namespace Rows
def none {H : Type} : Left H := { results := [], args := [] }

/-- 'petershamlaw03.LaceTurned': WHATEVER THE INPUT: true; the input reads as it did. -/
def laceTurnedSpec : ChangeSpec := { name := "laceTurned", fn := fun _ => fun
  | [d1, d2] => { results := [.lit (.bool true)], args := [d1, d2] }
  | _ => none }
def laceTurnedRow : OpenClaim := { program := "ytahmjlopifdeaaa", sum := "de691bb968de3078860aa06ad7b742fd301a5827b442f349b59845544105ad95", func := "petersham/petershamlaw03.LaceTurned", spec := "laceTurned", inPlace := ["slices.overlaps[petersham/lace.Move]", "slices.overlaps[int]"], unfollowed := true, recurses := true, plainKeys := false, apart := false }
def LaceTurnedSaid : Prop := laceTurnedRow.holds Try.pinned (OpenSpec.ofChange laceTurnedSpec)

/-- ITS FALSE NEIGHBOUR: 'it returns false'. Refute it at one input. -/
def laceTurnedWrong : ChangeSpec := { name := "laceTurned", fn := fun _ => fun
  | [d1, d2] => { results := [.lit (.bool false)], args := [d1, d2] }
  | _ => none }
def LaceTurnedWrongFalsely : Prop := laceTurnedRow.holds Try.pinned (OpenSpec.ofChange laceTurnedWrong)

/-- 'petershamlaw03.LaceFew': WHATEVER THE INPUT: true; the input reads as it did. -/
def laceFewSpec : ChangeSpec := { name := "laceFew", fn := fun _ => fun
  | [d1, d2] => { results := [.lit (.bool true)], args := [d1, d2] }
  | _ => none }
def laceFewRow : OpenClaim := { program := "ytahmjlopifdeaaa", sum := "de691bb968de3078860aa06ad7b742fd301a5827b442f349b59845544105ad95", func := "petersham/petershamlaw03.LaceFew", spec := "laceFew", inPlace := ["slices.overlaps[int]"], unfollowed := true, recurses := true, plainKeys := false, apart := false }
def LaceFewSaid : Prop := laceFewRow.holds Try.pinned (OpenSpec.ofChange laceFewSpec)

/-- ITS FALSE NEIGHBOUR: 'it returns false'. Refute it at one input. -/
def laceFewWrong : ChangeSpec := { name := "laceFew", fn := fun _ => fun
  | [d1, d2] => { results := [.lit (.bool false)], args := [d1, d2] }
  | _ => none }
def LaceFewWrongFalsely : Prop := laceFewRow.holds Try.pinned (OpenSpec.ofChange laceFewWrong)

/-- 'petershamlaw03.LaceCarded': WHATEVER THE INPUT: true; the input reads as it did. -/
def laceCardedSpec : ChangeSpec := { name := "laceCarded", fn := fun _ => fun
  | [d1, d2] => { results := [.lit (.bool true)], args := [d1, d2] }
  | _ => none }
def laceCardedRow : OpenClaim := { program := "ytahmjlopifdeaaa", sum := "de691bb968de3078860aa06ad7b742fd301a5827b442f349b59845544105ad95", func := "petersham/petershamlaw03.LaceCarded", spec := "laceCarded", inPlace := ["slices.overlaps[int]"], unfollowed := true, recurses := true, plainKeys := false, apart := false }
def LaceCardedSaid : Prop := laceCardedRow.holds Try.pinned (OpenSpec.ofChange laceCardedSpec)

/-- ITS FALSE NEIGHBOUR: 'it returns false'. Refute it at one input. -/
def laceCardedWrong : ChangeSpec := { name := "laceCarded", fn := fun _ => fun
  | [d1, d2] => { results := [.lit (.bool false)], args := [d1, d2] }
  | _ => none }
def LaceCardedWrongFalsely : Prop := laceCardedRow.holds Try.pinned (OpenSpec.ofChange laceCardedWrong)

/-- 'petershamlaw03.LaceGaped': WHATEVER THE INPUT: true; the input reads as it did. -/
def laceGapedSpec : ChangeSpec := { name := "laceGaped", fn := fun _ => fun
  | [d1, d2] => { results := [.lit (.bool true)], args := [d1, d2] }
  | _ => none }
def laceGapedRow : OpenClaim := { program := "ytahmjlopifdeaaa", sum := "de691bb968de3078860aa06ad7b742fd301a5827b442f349b59845544105ad95", func := "petersham/petershamlaw03.LaceGaped", spec := "laceGaped", inPlace := ["slices.overlaps[int]"], unfollowed := true, recurses := true, plainKeys := false, apart := false }
def LaceGapedSaid : Prop := laceGapedRow.holds Try.pinned (OpenSpec.ofChange laceGapedSpec)

/-- ITS FALSE NEIGHBOUR: 'it returns false'. Refute it at one input. -/
def laceGapedWrong : ChangeSpec := { name := "laceGaped", fn := fun _ => fun
  | [d1, d2] => { results := [.lit (.bool false)], args := [d1, d2] }
  | _ => none }
def LaceGapedWrongFalsely : Prop := laceGapedRow.holds Try.pinned (OpenSpec.ofChange laceGapedWrong)

/- THE SECOND FORM. 'bulk': how many values and letters a reading holds, each counted each time it is reached (what is shared counts as often as it is met; a slice's spare places count too). A statement '..UptoSaid' is the law's where the arguments, and the package variables that the reading takes, are together of bulk at most 1048576: NARROWER than '..Said'. Prove '..Said' where nothing that the law and all that it calls make is longer than what came in: it says more and counts as full. Else prove '..UptoSaid'. A law counts once. -/
mutual
def uptoBulk {H : Type} : DataW H → Nat
  | .lit (.string bytes) => bytes.length + 1
  | .lit _ => 1
  | .nil => 1
  | .ptr d => uptoBulk d + 1
  | .slice elems spare => uptoBulkAll elems + uptoBulkAll spare + 1
  | .agg parts => uptoBulkAll parts + 1
  | .iface _ d => uptoBulk d + 1
  | .map entries => uptoBulkEntries entries + 1
  | .held _ => 1
def uptoBulkAll {H : Type} : List (DataW H) → Nat
  | [] => 0
  | d :: r => uptoBulk d + uptoBulkAll r
def uptoBulkEntries {H : Type} : List (Lit × DataW H) → Nat
  | [] => 0
  | x :: r => uptoBulkEntry x + uptoBulkEntries r
def uptoBulkEntry {H : Type} : Lit × DataW H → Nat
  | (.string bytes, d) => bytes.length + uptoBulk d + 1
  | (_, d) => uptoBulk d + 1
 end
def uptoSmall : (H : Type) → List (DataW H) → Bool := fun _ ds => decide (uptoBulkAll ds ≤ 1048576)
def OpenSpec.upto (s : _root_.Go.ChangeSpec) : _root_.Go.OpenSpec := { _root_.Go.OpenSpec.ofChange s with cond := some uptoSmall }

/-- 'petershamlaw03.LaceTurned', WHERE WHAT IT READS IS OF BULK AT MOST 1048576: true; the input reads as it did. -/
def laceTurnedUptoRow : OpenClaim := { program := "ytahmjlopifdeaaa", sum := "de691bb968de3078860aa06ad7b742fd301a5827b442f349b59845544105ad95", func := "petersham/petershamlaw03.LaceTurned", spec := "laceTurned", inPlace := ["slices.overlaps[petersham/lace.Move]", "slices.overlaps[int]"], unfollowed := true, recurses := true, plainKeys := false, apart := false, narrowed := true }
def LaceTurnedUptoSaid : Prop := laceTurnedUptoRow.holds Try.pinned (OpenSpec.upto laceTurnedSpec)

/-- 'petershamlaw03.LaceFew', WHERE WHAT IT READS IS OF BULK AT MOST 1048576: true; the input reads as it did. -/
def laceFewUptoRow : OpenClaim := { program := "ytahmjlopifdeaaa", sum := "de691bb968de3078860aa06ad7b742fd301a5827b442f349b59845544105ad95", func := "petersham/petershamlaw03.LaceFew", spec := "laceFew", inPlace := ["slices.overlaps[int]"], unfollowed := true, recurses := true, plainKeys := false, apart := false, narrowed := true }
def LaceFewUptoSaid : Prop := laceFewUptoRow.holds Try.pinned (OpenSpec.upto laceFewSpec)

/-- 'petershamlaw03.LaceCarded', WHERE WHAT IT READS IS OF BULK AT MOST 1048576: true; the input reads as it did. -/
def laceCardedUptoRow : OpenClaim := { program := "ytahmjlopifdeaaa", sum := "de691bb968de3078860aa06ad7b742fd301a5827b442f349b59845544105ad95", func := "petersham/petershamlaw03.LaceCarded", spec := "laceCarded", inPlace := ["slices.overlaps[int]"], unfollowed := true, recurses := true, plainKeys := false, apart := false, narrowed := true }
def LaceCardedUptoSaid : Prop := laceCardedUptoRow.holds Try.pinned (OpenSpec.upto laceCardedSpec)

/-- 'petershamlaw03.LaceGaped', WHERE WHAT IT READS IS OF BULK AT MOST 1048576: true; the input reads as it did. -/
def laceGapedUptoRow : OpenClaim := { program := "ytahmjlopifdeaaa", sum := "de691bb968de3078860aa06ad7b742fd301a5827b442f349b59845544105ad95", func := "petersham/petershamlaw03.LaceGaped", spec := "laceGaped", inPlace := ["slices.overlaps[int]"], unfollowed := true, recurses := true, plainKeys := false, apart := false, narrowed := true }
def LaceGapedUptoSaid : Prop := laceGapedUptoRow.holds Try.pinned (OpenSpec.upto laceGapedSpec)

end Rows
end Go.Proofs.Ytahmjlopifdeaaa
