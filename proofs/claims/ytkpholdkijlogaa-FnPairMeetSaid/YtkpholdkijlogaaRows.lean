/-
  No cell of these rows narrows 'for every input' (looked for: loops, veiled, ifaces, maps, wideKeys, modest, calm, conditions, laid).
  DERIVED. THE GIVEN ROWS OF THIS SEAT. 7 by the template 'for every input the law returns true; each argument reads behind the call as it read before'; 0 by the template 'total and deterministic' (their statements: YtkpholdkijlogaaTotals.lean).
  GIVEN WITH THE SEED: the statements are not yours to turn. If you find one false, say at which input.
  Laid BY PROGRAM, IN A SANDBOX (cutbox-rows.mjs): the forced cells as the released guide's own fill.sh prints them over the translation c83cd2126d62bd6a… (all of the seat's roots in one cut). By AI agents, Wed Nov 11 2026. No macro, syntax, notation, axiom, sorry.
-/
import Derived.Test.YtkpholdkijlogaaChecked
import GoSem.Claim
import GoSem.ClaimJoined
import GoSem.ClaimMapViews
import Derived.JoinedTies
import Derived.KernelRfl
namespace Go.Proofs.Ytkpholdkijlogaa
/- THE CELL 'sum', in the pinned program and in every row, IS THE sha256 OF THE DUMP (.gsa) THAT YtkpholdkijlogaaProg.lean LOADS. Nothing in Lean hashes anything: it is a label: what it is worth is what the hold of that sum in a sandbox is worth. -/
noncomputable def Try.pinned : Pinned := { name := "ytkpholdkijlogaa", sum := "c83cd2126d62bd6abd74507ede17f0f44fb986b2d430ca59499c528938e3b085", checked := Try.checked }
namespace Rows
def none {H : Type} : Left H := { results := [], args := [] }

/-- 'laws.FnExactBitPartOf': WHATEVER THE INPUT: true; the input reads as it did. -/
def fnExactBitPartOfSpec : ChangeSpec := { name := "fnExactBitPartOf", fn := fun _ => fun
  | [d1, d2] => { results := [.lit (.bool true)], args := [d1, d2] }
  | _ => none }
def fnExactBitPartOfRow : OpenClaim := { program := "ytkpholdkijlogaa", sum := "c83cd2126d62bd6abd74507ede17f0f44fb986b2d430ca59499c528938e3b085", func := "loop.example/pinfold/laws.FnExactBitPartOf", spec := "fnExactBitPartOf", apart := false }
def FnExactBitPartOfSaid : Prop := fnExactBitPartOfRow.holds Try.pinned (OpenSpec.ofChange fnExactBitPartOfSpec)

/-- ITS FALSE NEIGHBOUR: 'it returns false'. Refute it at one input. -/
def fnExactBitPartOfWrong : ChangeSpec := { name := "fnExactBitPartOf", fn := fun _ => fun
  | [d1, d2] => { results := [.lit (.bool false)], args := [d1, d2] }
  | _ => none }
def FnExactBitPartOfWrongFalsely : Prop := fnExactBitPartOfRow.holds Try.pinned (OpenSpec.ofChange fnExactBitPartOfWrong)

/-- 'laws.FnExactPairHull': WHATEVER THE INPUT: true; the input reads as it did. -/
def fnExactPairHullSpec : ChangeSpec := { name := "fnExactPairHull", fn := fun _ => fun
  | [d1, d2, d3] => { results := [.lit (.bool true)], args := [d1, d2, d3] }
  | _ => none }
def fnExactPairHullRow : OpenClaim := { program := "ytkpholdkijlogaa", sum := "c83cd2126d62bd6abd74507ede17f0f44fb986b2d430ca59499c528938e3b085", func := "loop.example/pinfold/laws.FnExactPairHull", spec := "fnExactPairHull", apart := false }
def FnExactPairHullSaid : Prop := fnExactPairHullRow.holds Try.pinned (OpenSpec.ofChange fnExactPairHullSpec)

/-- ITS FALSE NEIGHBOUR: 'it returns false'. Refute it at one input. -/
def fnExactPairHullWrong : ChangeSpec := { name := "fnExactPairHull", fn := fun _ => fun
  | [d1, d2, d3] => { results := [.lit (.bool false)], args := [d1, d2, d3] }
  | _ => none }
def FnExactPairHullWrongFalsely : Prop := fnExactPairHullRow.holds Try.pinned (OpenSpec.ofChange fnExactPairHullWrong)

/-- 'laws.FnExactPairMeet': WHATEVER THE INPUT: true; the input reads as it did. -/
def fnExactPairMeetSpec : ChangeSpec := { name := "fnExactPairMeet", fn := fun _ => fun
  | [d1, d2, d3] => { results := [.lit (.bool true)], args := [d1, d2, d3] }
  | _ => none }
def fnExactPairMeetRow : OpenClaim := { program := "ytkpholdkijlogaa", sum := "c83cd2126d62bd6abd74507ede17f0f44fb986b2d430ca59499c528938e3b085", func := "loop.example/pinfold/laws.FnExactPairMeet", spec := "fnExactPairMeet", apart := false }
def FnExactPairMeetSaid : Prop := fnExactPairMeetRow.holds Try.pinned (OpenSpec.ofChange fnExactPairMeetSpec)

/-- ITS FALSE NEIGHBOUR: 'it returns false'. Refute it at one input. -/
def fnExactPairMeetWrong : ChangeSpec := { name := "fnExactPairMeet", fn := fun _ => fun
  | [d1, d2, d3] => { results := [.lit (.bool false)], args := [d1, d2, d3] }
  | _ => none }
def FnExactPairMeetWrongFalsely : Prop := fnExactPairMeetRow.holds Try.pinned (OpenSpec.ofChange fnExactPairMeetWrong)

/-- 'laws.FnBitMiddle': WHATEVER THE INPUT: true; the input reads as it did. -/
def fnBitMiddleSpec : ChangeSpec := { name := "fnBitMiddle", fn := fun _ => fun
  | [d] => { results := [.lit (.bool true)], args := [d] }
  | _ => none }
def fnBitMiddleRow : OpenClaim := { program := "ytkpholdkijlogaa", sum := "c83cd2126d62bd6abd74507ede17f0f44fb986b2d430ca59499c528938e3b085", func := "loop.example/pinfold/laws.FnBitMiddle", spec := "fnBitMiddle", apart := false }
def FnBitMiddleSaid : Prop := fnBitMiddleRow.holds Try.pinned (OpenSpec.ofChange fnBitMiddleSpec)

/-- ITS FALSE NEIGHBOUR: 'it returns false'. Refute it at one input. -/
def fnBitMiddleWrong : ChangeSpec := { name := "fnBitMiddle", fn := fun _ => fun
  | [d] => { results := [.lit (.bool false)], args := [d] }
  | _ => none }
def FnBitMiddleWrongFalsely : Prop := fnBitMiddleRow.holds Try.pinned (OpenSpec.ofChange fnBitMiddleWrong)

/-- 'laws.FnBitSteps': WHATEVER THE INPUT: true; the input reads as it did. -/
def fnBitStepsSpec : ChangeSpec := { name := "fnBitSteps", fn := fun _ => fun
  | [d] => { results := [.lit (.bool true)], args := [d] }
  | _ => none }
def fnBitStepsRow : OpenClaim := { program := "ytkpholdkijlogaa", sum := "c83cd2126d62bd6abd74507ede17f0f44fb986b2d430ca59499c528938e3b085", func := "loop.example/pinfold/laws.FnBitSteps", spec := "fnBitSteps", apart := false }
def FnBitStepsSaid : Prop := fnBitStepsRow.holds Try.pinned (OpenSpec.ofChange fnBitStepsSpec)

/-- ITS FALSE NEIGHBOUR: 'it returns false'. Refute it at one input. -/
def fnBitStepsWrong : ChangeSpec := { name := "fnBitSteps", fn := fun _ => fun
  | [d] => { results := [.lit (.bool false)], args := [d] }
  | _ => none }
def FnBitStepsWrongFalsely : Prop := fnBitStepsRow.holds Try.pinned (OpenSpec.ofChange fnBitStepsWrong)

/-- 'laws.FnBitOrder': WHATEVER THE INPUT: true; the input reads as it did. -/
def fnBitOrderSpec : ChangeSpec := { name := "fnBitOrder", fn := fun _ => fun
  | [d1, d2] => { results := [.lit (.bool true)], args := [d1, d2] }
  | _ => none }
def fnBitOrderRow : OpenClaim := { program := "ytkpholdkijlogaa", sum := "c83cd2126d62bd6abd74507ede17f0f44fb986b2d430ca59499c528938e3b085", func := "loop.example/pinfold/laws.FnBitOrder", spec := "fnBitOrder", apart := false }
def FnBitOrderSaid : Prop := fnBitOrderRow.holds Try.pinned (OpenSpec.ofChange fnBitOrderSpec)

/-- ITS FALSE NEIGHBOUR: 'it returns false'. Refute it at one input. -/
def fnBitOrderWrong : ChangeSpec := { name := "fnBitOrder", fn := fun _ => fun
  | [d1, d2] => { results := [.lit (.bool false)], args := [d1, d2] }
  | _ => none }
def FnBitOrderWrongFalsely : Prop := fnBitOrderRow.holds Try.pinned (OpenSpec.ofChange fnBitOrderWrong)

/-- 'laws.FnPairMeet': WHATEVER THE INPUT: true; the input reads as it did. -/
def fnPairMeetSpec : ChangeSpec := { name := "fnPairMeet", fn := fun _ => fun
  | [d1, d2] => { results := [.lit (.bool true)], args := [d1, d2] }
  | _ => none }
def fnPairMeetRow : OpenClaim := { program := "ytkpholdkijlogaa", sum := "c83cd2126d62bd6abd74507ede17f0f44fb986b2d430ca59499c528938e3b085", func := "loop.example/pinfold/laws.FnPairMeet", spec := "fnPairMeet", apart := false }
def FnPairMeetSaid : Prop := fnPairMeetRow.holds Try.pinned (OpenSpec.ofChange fnPairMeetSpec)

/-- ITS FALSE NEIGHBOUR: 'it returns false'. Refute it at one input. -/
def fnPairMeetWrong : ChangeSpec := { name := "fnPairMeet", fn := fun _ => fun
  | [d1, d2] => { results := [.lit (.bool false)], args := [d1, d2] }
  | _ => none }
def FnPairMeetWrongFalsely : Prop := fnPairMeetRow.holds Try.pinned (OpenSpec.ofChange fnPairMeetWrong)

/- THE SECOND FORM. 'bulk': how many values and letters a reading holds, each counted each time it is reached (what is shared counts as often as it is met; a slice's spare places count too). A statement '..UptoSaid' is the law's where the arguments, and the package variables that the reading takes, are together of bulk at most 1048576: NARROWER than '..Said'. Prove '..Said' where nothing that the law and all that it calls make is longer than what came in: it says more and counts as full. Else prove '..UptoSaid'. A law counts once. -/
mutual
def uptoBulk {H : Type} : DataW H → Nat
  | .lit (.string bytes) => bytes.length + 1
  | .lit _ => 1
  | .nil => 1
  | .ptr d => uptoBulk d + 1
  | .slice elems spare => uptoBulkAll elems + uptoBulkAll spare + 1
  | .agg parts => uptoBulkAll parts + 1
  | .iface _ d => uptoBulk d + 1
  | .map entries => uptoBulkEntries entries + 1
  | .held _ => 1
def uptoBulkAll {H : Type} : List (DataW H) → Nat
  | [] => 0
  | d :: r => uptoBulk d + uptoBulkAll r
def uptoBulkEntries {H : Type} : List (Lit × DataW H) → Nat
  | [] => 0
  | x :: r => uptoBulkEntry x + uptoBulkEntries r
def uptoBulkEntry {H : Type} : Lit × DataW H → Nat
  | (.string bytes, d) => bytes.length + uptoBulk d + 1
  | (_, d) => uptoBulk d + 1
 end
def uptoSmall : (H : Type) → List (DataW H) → Bool := fun _ ds => decide (uptoBulkAll ds ≤ 1048576)
def OpenSpec.upto (s : _root_.Go.ChangeSpec) : _root_.Go.OpenSpec := { _root_.Go.OpenSpec.ofChange s with cond := some uptoSmall }

/-- 'laws.FnExactBitPartOf', WHERE WHAT IT READS IS OF BULK AT MOST 1048576: true; the input reads as it did. -/
def fnExactBitPartOfUptoRow : OpenClaim := { program := "ytkpholdkijlogaa", sum := "c83cd2126d62bd6abd74507ede17f0f44fb986b2d430ca59499c528938e3b085", func := "loop.example/pinfold/laws.FnExactBitPartOf", spec := "fnExactBitPartOf", apart := false, narrowed := true }
def FnExactBitPartOfUptoSaid : Prop := fnExactBitPartOfUptoRow.holds Try.pinned (OpenSpec.upto fnExactBitPartOfSpec)

/-- 'laws.FnExactPairHull', WHERE WHAT IT READS IS OF BULK AT MOST 1048576: true; the input reads as it did. -/
def fnExactPairHullUptoRow : OpenClaim := { program := "ytkpholdkijlogaa", sum := "c83cd2126d62bd6abd74507ede17f0f44fb986b2d430ca59499c528938e3b085", func := "loop.example/pinfold/laws.FnExactPairHull", spec := "fnExactPairHull", apart := false, narrowed := true }
def FnExactPairHullUptoSaid : Prop := fnExactPairHullUptoRow.holds Try.pinned (OpenSpec.upto fnExactPairHullSpec)

/-- 'laws.FnExactPairMeet', WHERE WHAT IT READS IS OF BULK AT MOST 1048576: true; the input reads as it did. -/
def fnExactPairMeetUptoRow : OpenClaim := { program := "ytkpholdkijlogaa", sum := "c83cd2126d62bd6abd74507ede17f0f44fb986b2d430ca59499c528938e3b085", func := "loop.example/pinfold/laws.FnExactPairMeet", spec := "fnExactPairMeet", apart := false, narrowed := true }
def FnExactPairMeetUptoSaid : Prop := fnExactPairMeetUptoRow.holds Try.pinned (OpenSpec.upto fnExactPairMeetSpec)

/-- 'laws.FnBitMiddle', WHERE WHAT IT READS IS OF BULK AT MOST 1048576: true; the input reads as it did. -/
def fnBitMiddleUptoRow : OpenClaim := { program := "ytkpholdkijlogaa", sum := "c83cd2126d62bd6abd74507ede17f0f44fb986b2d430ca59499c528938e3b085", func := "loop.example/pinfold/laws.FnBitMiddle", spec := "fnBitMiddle", apart := false, narrowed := true }
def FnBitMiddleUptoSaid : Prop := fnBitMiddleUptoRow.holds Try.pinned (OpenSpec.upto fnBitMiddleSpec)

/-- 'laws.FnBitSteps', WHERE WHAT IT READS IS OF BULK AT MOST 1048576: true; the input reads as it did. -/
def fnBitStepsUptoRow : OpenClaim := { program := "ytkpholdkijlogaa", sum := "c83cd2126d62bd6abd74507ede17f0f44fb986b2d430ca59499c528938e3b085", func := "loop.example/pinfold/laws.FnBitSteps", spec := "fnBitSteps", apart := false, narrowed := true }
def FnBitStepsUptoSaid : Prop := fnBitStepsUptoRow.holds Try.pinned (OpenSpec.upto fnBitStepsSpec)

/-- 'laws.FnBitOrder', WHERE WHAT IT READS IS OF BULK AT MOST 1048576: true; the input reads as it did. -/
def fnBitOrderUptoRow : OpenClaim := { program := "ytkpholdkijlogaa", sum := "c83cd2126d62bd6abd74507ede17f0f44fb986b2d430ca59499c528938e3b085", func := "loop.example/pinfold/laws.FnBitOrder", spec := "fnBitOrder", apart := false, narrowed := true }
def FnBitOrderUptoSaid : Prop := fnBitOrderUptoRow.holds Try.pinned (OpenSpec.upto fnBitOrderSpec)

/-- 'laws.FnPairMeet', WHERE WHAT IT READS IS OF BULK AT MOST 1048576: true; the input reads as it did. -/
def fnPairMeetUptoRow : OpenClaim := { program := "ytkpholdkijlogaa", sum := "c83cd2126d62bd6abd74507ede17f0f44fb986b2d430ca59499c528938e3b085", func := "loop.example/pinfold/laws.FnPairMeet", spec := "fnPairMeet", apart := false, narrowed := true }
def FnPairMeetUptoSaid : Prop := fnPairMeetUptoRow.holds Try.pinned (OpenSpec.upto fnPairMeetSpec)

end Rows
end Go.Proofs.Ytkpholdkijlogaa
