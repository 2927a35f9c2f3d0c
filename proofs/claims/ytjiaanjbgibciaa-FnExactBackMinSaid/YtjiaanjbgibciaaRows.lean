/-
  No cell of these rows narrows 'for every input' (looked for: loops, veiled, ifaces, maps, wideKeys, modest, calm, conditions, laid).
  DERIVED. THE GIVEN ROWS OF THIS SEAT. 12 by the template 'for every input the law returns true; each argument reads behind the call as it read before'; 0 by the template 'total and deterministic' (their statements: YtjiaanjbgibciaaTotals.lean).
  GIVEN WITH THE SEED: the statements are not yours to turn. If you find one false, say at which input.
  Laid BY PROGRAM, IN A SANDBOX (cutbox-rows.mjs): the forced cells as the released guide's own fill.sh prints them over the translation 855d4c93eb6bb294… (all of the seat's roots in one cut). By AI agents, Wed Nov 11 2026. No macro, syntax, notation, axiom, sorry.
-/
import Derived.Test.YtjiaanjbgibciaaChecked
import GoSem.Claim
import GoSem.ClaimJoined
import GoSem.ClaimMapViews
import Derived.JoinedTies
import Derived.KernelRfl
namespace Go.Proofs.Ytjiaanjbgibciaa
/- THE CELL 'sum', in the pinned program and in every row, IS THE sha256 OF THE DUMP (.gsa) THAT YtjiaanjbgibciaaProg.lean LOADS. Nothing in Lean hashes anything: it is a label: what it is worth is what the hold of that sum in a sandbox is worth. -/
noncomputable def Try.pinned : Pinned := { name := "ytjiaanjbgibciaa", sum := "855d4c93eb6bb294628f23392b2e2b0b384dc84ab2668b625a6e5708c5fc186c", checked := Try.checked }
namespace Rows
def none {H : Type} : Left H := { results := [], args := [] }

/-- 'laws.FnExactSpanAll': WHATEVER THE INPUT: true; the input reads as it did. -/
def fnExactSpanAllSpec : ChangeSpec := { name := "fnExactSpanAll", fn := fun _ => fun
  | [d] => { results := [.lit (.bool true)], args := [d] }
  | _ => none }
def fnExactSpanAllRow : OpenClaim := { program := "ytjiaanjbgibciaa", sum := "855d4c93eb6bb294628f23392b2e2b0b384dc84ab2668b625a6e5708c5fc186c", func := "loop.example/pinfold/laws.FnExactSpanAll", spec := "fnExactSpanAll", apart := false }
def FnExactSpanAllSaid : Prop := fnExactSpanAllRow.holds Try.pinned (OpenSpec.ofChange fnExactSpanAllSpec)

/-- ITS FALSE NEIGHBOUR: 'it returns false'. Refute it at one input. -/
def fnExactSpanAllWrong : ChangeSpec := { name := "fnExactSpanAll", fn := fun _ => fun
  | [d] => { results := [.lit (.bool false)], args := [d] }
  | _ => none }
def FnExactSpanAllWrongFalsely : Prop := fnExactSpanAllRow.holds Try.pinned (OpenSpec.ofChange fnExactSpanAllWrong)

/-- 'laws.FnExactSpanOk': WHATEVER THE INPUT: true; the input reads as it did. -/
def fnExactSpanOkSpec : ChangeSpec := { name := "fnExactSpanOk", fn := fun _ => fun
  | [d1, d2] => { results := [.lit (.bool true)], args := [d1, d2] }
  | _ => none }
def fnExactSpanOkRow : OpenClaim := { program := "ytjiaanjbgibciaa", sum := "855d4c93eb6bb294628f23392b2e2b0b384dc84ab2668b625a6e5708c5fc186c", func := "loop.example/pinfold/laws.FnExactSpanOk", spec := "fnExactSpanOk", apart := false }
def FnExactSpanOkSaid : Prop := fnExactSpanOkRow.holds Try.pinned (OpenSpec.ofChange fnExactSpanOkSpec)

/-- ITS FALSE NEIGHBOUR: 'it returns false'. Refute it at one input. -/
def fnExactSpanOkWrong : ChangeSpec := { name := "fnExactSpanOk", fn := fun _ => fun
  | [d1, d2] => { results := [.lit (.bool false)], args := [d1, d2] }
  | _ => none }
def FnExactSpanOkWrongFalsely : Prop := fnExactSpanOkRow.holds Try.pinned (OpenSpec.ofChange fnExactSpanOkWrong)

/-- 'laws.FnExactSpanNeg': WHATEVER THE INPUT: true; the input reads as it did. -/
def fnExactSpanNegSpec : ChangeSpec := { name := "fnExactSpanNeg", fn := fun _ => fun
  | [d1, d2] => { results := [.lit (.bool true)], args := [d1, d2] }
  | _ => none }
def fnExactSpanNegRow : OpenClaim := { program := "ytjiaanjbgibciaa", sum := "855d4c93eb6bb294628f23392b2e2b0b384dc84ab2668b625a6e5708c5fc186c", func := "loop.example/pinfold/laws.FnExactSpanNeg", spec := "fnExactSpanNeg", apart := false }
def FnExactSpanNegSaid : Prop := fnExactSpanNegRow.holds Try.pinned (OpenSpec.ofChange fnExactSpanNegSpec)

/-- ITS FALSE NEIGHBOUR: 'it returns false'. Refute it at one input. -/
def fnExactSpanNegWrong : ChangeSpec := { name := "fnExactSpanNeg", fn := fun _ => fun
  | [d1, d2] => { results := [.lit (.bool false)], args := [d1, d2] }
  | _ => none }
def FnExactSpanNegWrongFalsely : Prop := fnExactSpanNegRow.holds Try.pinned (OpenSpec.ofChange fnExactSpanNegWrong)

/-- 'laws.FnExactSpanMax': WHATEVER THE INPUT: true; the input reads as it did. -/
def fnExactSpanMaxSpec : ChangeSpec := { name := "fnExactSpanMax", fn := fun _ => fun
  | [d1, d2, d3] => { results := [.lit (.bool true)], args := [d1, d2, d3] }
  | _ => none }
def fnExactSpanMaxRow : OpenClaim := { program := "ytjiaanjbgibciaa", sum := "855d4c93eb6bb294628f23392b2e2b0b384dc84ab2668b625a6e5708c5fc186c", func := "loop.example/pinfold/laws.FnExactSpanMax", spec := "fnExactSpanMax", apart := false }
def FnExactSpanMaxSaid : Prop := fnExactSpanMaxRow.holds Try.pinned (OpenSpec.ofChange fnExactSpanMaxSpec)

/-- ITS FALSE NEIGHBOUR: 'it returns false'. Refute it at one input. -/
def fnExactSpanMaxWrong : ChangeSpec := { name := "fnExactSpanMax", fn := fun _ => fun
  | [d1, d2, d3] => { results := [.lit (.bool false)], args := [d1, d2, d3] }
  | _ => none }
def FnExactSpanMaxWrongFalsely : Prop := fnExactSpanMaxRow.holds Try.pinned (OpenSpec.ofChange fnExactSpanMaxWrong)

/-- 'laws.FnExactSpanMin': WHATEVER THE INPUT: true; the input reads as it did. -/
def fnExactSpanMinSpec : ChangeSpec := { name := "fnExactSpanMin", fn := fun _ => fun
  | [d1, d2, d3] => { results := [.lit (.bool true)], args := [d1, d2, d3] }
  | _ => none }
def fnExactSpanMinRow : OpenClaim := { program := "ytjiaanjbgibciaa", sum := "855d4c93eb6bb294628f23392b2e2b0b384dc84ab2668b625a6e5708c5fc186c", func := "loop.example/pinfold/laws.FnExactSpanMin", spec := "fnExactSpanMin", apart := false }
def FnExactSpanMinSaid : Prop := fnExactSpanMinRow.holds Try.pinned (OpenSpec.ofChange fnExactSpanMinSpec)

/-- ITS FALSE NEIGHBOUR: 'it returns false'. Refute it at one input. -/
def fnExactSpanMinWrong : ChangeSpec := { name := "fnExactSpanMin", fn := fun _ => fun
  | [d1, d2, d3] => { results := [.lit (.bool false)], args := [d1, d2, d3] }
  | _ => none }
def FnExactSpanMinWrongFalsely : Prop := fnExactSpanMinRow.holds Try.pinned (OpenSpec.ofChange fnExactSpanMinWrong)

/-- 'laws.FnExactSpanAbs': WHATEVER THE INPUT: true; the input reads as it did. -/
def fnExactSpanAbsSpec : ChangeSpec := { name := "fnExactSpanAbs", fn := fun _ => fun
  | [d1, d2] => { results := [.lit (.bool true)], args := [d1, d2] }
  | _ => none }
def fnExactSpanAbsRow : OpenClaim := { program := "ytjiaanjbgibciaa", sum := "855d4c93eb6bb294628f23392b2e2b0b384dc84ab2668b625a6e5708c5fc186c", func := "loop.example/pinfold/laws.FnExactSpanAbs", spec := "fnExactSpanAbs", apart := false }
def FnExactSpanAbsSaid : Prop := fnExactSpanAbsRow.holds Try.pinned (OpenSpec.ofChange fnExactSpanAbsSpec)

/-- ITS FALSE NEIGHBOUR: 'it returns false'. Refute it at one input. -/
def fnExactSpanAbsWrong : ChangeSpec := { name := "fnExactSpanAbs", fn := fun _ => fun
  | [d1, d2] => { results := [.lit (.bool false)], args := [d1, d2] }
  | _ => none }
def FnExactSpanAbsWrongFalsely : Prop := fnExactSpanAbsRow.holds Try.pinned (OpenSpec.ofChange fnExactSpanAbsWrong)

/-- 'laws.FnExactSpanHull': WHATEVER THE INPUT: true; the input reads as it did. -/
def fnExactSpanHullSpec : ChangeSpec := { name := "fnExactSpanHull", fn := fun _ => fun
  | [d1, d2, d3] => { results := [.lit (.bool true)], args := [d1, d2, d3] }
  | _ => none }
def fnExactSpanHullRow : OpenClaim := { program := "ytjiaanjbgibciaa", sum := "855d4c93eb6bb294628f23392b2e2b0b384dc84ab2668b625a6e5708c5fc186c", func := "loop.example/pinfold/laws.FnExactSpanHull", spec := "fnExactSpanHull", apart := false }
def FnExactSpanHullSaid : Prop := fnExactSpanHullRow.holds Try.pinned (OpenSpec.ofChange fnExactSpanHullSpec)

/-- ITS FALSE NEIGHBOUR: 'it returns false'. Refute it at one input. -/
def fnExactSpanHullWrong : ChangeSpec := { name := "fnExactSpanHull", fn := fun _ => fun
  | [d1, d2, d3] => { results := [.lit (.bool false)], args := [d1, d2, d3] }
  | _ => none }
def FnExactSpanHullWrongFalsely : Prop := fnExactSpanHullRow.holds Try.pinned (OpenSpec.ofChange fnExactSpanHullWrong)

/-- 'laws.FnExactSpanMeet': WHATEVER THE INPUT: true; the input reads as it did. -/
def fnExactSpanMeetSpec : ChangeSpec := { name := "fnExactSpanMeet", fn := fun _ => fun
  | [d1, d2, d3] => { results := [.lit (.bool true)], args := [d1, d2, d3] }
  | _ => none }
def fnExactSpanMeetRow : OpenClaim := { program := "ytjiaanjbgibciaa", sum := "855d4c93eb6bb294628f23392b2e2b0b384dc84ab2668b625a6e5708c5fc186c", func := "loop.example/pinfold/laws.FnExactSpanMeet", spec := "fnExactSpanMeet", apart := false }
def FnExactSpanMeetSaid : Prop := fnExactSpanMeetRow.holds Try.pinned (OpenSpec.ofChange fnExactSpanMeetSpec)

/-- ITS FALSE NEIGHBOUR: 'it returns false'. Refute it at one input. -/
def fnExactSpanMeetWrong : ChangeSpec := { name := "fnExactSpanMeet", fn := fun _ => fun
  | [d1, d2, d3] => { results := [.lit (.bool false)], args := [d1, d2, d3] }
  | _ => none }
def FnExactSpanMeetWrongFalsely : Prop := fnExactSpanMeetRow.holds Try.pinned (OpenSpec.ofChange fnExactSpanMeetWrong)

/-- 'laws.FnExactBackMin': WHATEVER THE INPUT: true; the input reads as it did. -/
def fnExactBackMinSpec : ChangeSpec := { name := "fnExactBackMin", fn := fun _ => fun
  | [d1, d2, d3, d4] => { results := [.lit (.bool true)], args := [d1, d2, d3, d4] }
  | _ => none }
def fnExactBackMinRow : OpenClaim := { program := "ytjiaanjbgibciaa", sum := "855d4c93eb6bb294628f23392b2e2b0b384dc84ab2668b625a6e5708c5fc186c", func := "loop.example/pinfold/laws.FnExactBackMin", spec := "fnExactBackMin", apart := false }
def FnExactBackMinSaid : Prop := fnExactBackMinRow.holds Try.pinned (OpenSpec.ofChange fnExactBackMinSpec)

/-- ITS FALSE NEIGHBOUR: 'it returns false'. Refute it at one input. -/
def fnExactBackMinWrong : ChangeSpec := { name := "fnExactBackMin", fn := fun _ => fun
  | [d1, d2, d3, d4] => { results := [.lit (.bool false)], args := [d1, d2, d3, d4] }
  | _ => none }
def FnExactBackMinWrongFalsely : Prop := fnExactBackMinRow.holds Try.pinned (OpenSpec.ofChange fnExactBackMinWrong)

/-- 'laws.FnExactBackMax': WHATEVER THE INPUT: true; the input reads as it did. -/
def fnExactBackMaxSpec : ChangeSpec := { name := "fnExactBackMax", fn := fun _ => fun
  | [d1, d2, d3, d4] => { results := [.lit (.bool true)], args := [d1, d2, d3, d4] }
  | _ => none }
def fnExactBackMaxRow : OpenClaim := { program := "ytjiaanjbgibciaa", sum := "855d4c93eb6bb294628f23392b2e2b0b384dc84ab2668b625a6e5708c5fc186c", func := "loop.example/pinfold/laws.FnExactBackMax", spec := "fnExactBackMax", apart := false }
def FnExactBackMaxSaid : Prop := fnExactBackMaxRow.holds Try.pinned (OpenSpec.ofChange fnExactBackMaxSpec)

/-- ITS FALSE NEIGHBOUR: 'it returns false'. Refute it at one input. -/
def fnExactBackMaxWrong : ChangeSpec := { name := "fnExactBackMax", fn := fun _ => fun
  | [d1, d2, d3, d4] => { results := [.lit (.bool false)], args := [d1, d2, d3, d4] }
  | _ => none }
def FnExactBackMaxWrongFalsely : Prop := fnExactBackMaxRow.holds Try.pinned (OpenSpec.ofChange fnExactBackMaxWrong)

/-- 'laws.FnExactBackAbs': WHATEVER THE INPUT: true; the input reads as it did. -/
def fnExactBackAbsSpec : ChangeSpec := { name := "fnExactBackAbs", fn := fun _ => fun
  | [d1, d2, d3] => { results := [.lit (.bool true)], args := [d1, d2, d3] }
  | _ => none }
def fnExactBackAbsRow : OpenClaim := { program := "ytjiaanjbgibciaa", sum := "855d4c93eb6bb294628f23392b2e2b0b384dc84ab2668b625a6e5708c5fc186c", func := "loop.example/pinfold/laws.FnExactBackAbs", spec := "fnExactBackAbs", apart := false }
def FnExactBackAbsSaid : Prop := fnExactBackAbsRow.holds Try.pinned (OpenSpec.ofChange fnExactBackAbsSpec)

/-- ITS FALSE NEIGHBOUR: 'it returns false'. Refute it at one input. -/
def fnExactBackAbsWrong : ChangeSpec := { name := "fnExactBackAbs", fn := fun _ => fun
  | [d1, d2, d3] => { results := [.lit (.bool false)], args := [d1, d2, d3] }
  | _ => none }
def FnExactBackAbsWrongFalsely : Prop := fnExactBackAbsRow.holds Try.pinned (OpenSpec.ofChange fnExactBackAbsWrong)

/-- 'laws.FnExactRelSure': WHATEVER THE INPUT: true; the input reads as it did. -/
def fnExactRelSureSpec : ChangeSpec := { name := "fnExactRelSure", fn := fun _ => fun
  | [d1, d2, d3, d4] => { results := [.lit (.bool true)], args := [d1, d2, d3, d4] }
  | _ => none }
def fnExactRelSureRow : OpenClaim := { program := "ytjiaanjbgibciaa", sum := "855d4c93eb6bb294628f23392b2e2b0b384dc84ab2668b625a6e5708c5fc186c", func := "loop.example/pinfold/laws.FnExactRelSure", spec := "fnExactRelSure", recurses := true, apart := false }
def FnExactRelSureSaid : Prop := fnExactRelSureRow.holds Try.pinned (OpenSpec.ofChange fnExactRelSureSpec)

/-- ITS FALSE NEIGHBOUR: 'it returns false'. Refute it at one input. -/
def fnExactRelSureWrong : ChangeSpec := { name := "fnExactRelSure", fn := fun _ => fun
  | [d1, d2, d3, d4] => { results := [.lit (.bool false)], args := [d1, d2, d3, d4] }
  | _ => none }
def FnExactRelSureWrongFalsely : Prop := fnExactRelSureRow.holds Try.pinned (OpenSpec.ofChange fnExactRelSureWrong)

/- THE SECOND FORM. 'bulk': how many values and letters a reading holds, each counted each time it is reached (what is shared counts as often as it is met; a slice's spare places count too). A statement '..UptoSaid' is the law's where the arguments, and the package variables that the reading takes, are together of bulk at most 1048576: NARROWER than '..Said'. Prove '..Said' where nothing that the law and all that it calls make is longer than what came in: it says more and counts as full. Else prove '..UptoSaid'. A law counts once. -/
mutual
def uptoBulk {H : Type} : DataW H → Nat
  | .lit (.string bytes) => bytes.length + 1
  | .lit _ => 1
  | .nil => 1
  | .ptr d => uptoBulk d + 1
  | .slice elems spare => uptoBulkAll elems + uptoBulkAll spare + 1
  | .agg parts => uptoBulkAll parts + 1
  | .iface _ d => uptoBulk d + 1
  | .map entries => uptoBulkEntries entries + 1
  | .held _ => 1
def uptoBulkAll {H : Type} : List (DataW H) → Nat
  | [] => 0
  | d :: r => uptoBulk d + uptoBulkAll r
def uptoBulkEntries {H : Type} : List (Lit × DataW H) → Nat
  | [] => 0
  | x :: r => uptoBulkEntry x + uptoBulkEntries r
def uptoBulkEntry {H : Type} : Lit × DataW H → Nat
  | (.string bytes, d) => bytes.length + uptoBulk d + 1
  | (_, d) => uptoBulk d + 1
 end
def uptoSmall : (H : Type) → List (DataW H) → Bool := fun _ ds => decide (uptoBulkAll ds ≤ 1048576)
def OpenSpec.upto (s : _root_.Go.ChangeSpec) : _root_.Go.OpenSpec := { _root_.Go.OpenSpec.ofChange s with cond := some uptoSmall }

/-- 'laws.FnExactSpanAll', WHERE WHAT IT READS IS OF BULK AT MOST 1048576: true; the input reads as it did. -/
def fnExactSpanAllUptoRow : OpenClaim := { program := "ytjiaanjbgibciaa", sum := "855d4c93eb6bb294628f23392b2e2b0b384dc84ab2668b625a6e5708c5fc186c", func := "loop.example/pinfold/laws.FnExactSpanAll", spec := "fnExactSpanAll", apart := false, narrowed := true }
def FnExactSpanAllUptoSaid : Prop := fnExactSpanAllUptoRow.holds Try.pinned (OpenSpec.upto fnExactSpanAllSpec)

/-- 'laws.FnExactSpanOk', WHERE WHAT IT READS IS OF BULK AT MOST 1048576: true; the input reads as it did. -/
def fnExactSpanOkUptoRow : OpenClaim := { program := "ytjiaanjbgibciaa", sum := "855d4c93eb6bb294628f23392b2e2b0b384dc84ab2668b625a6e5708c5fc186c", func := "loop.example/pinfold/laws.FnExactSpanOk", spec := "fnExactSpanOk", apart := false, narrowed := true }
def FnExactSpanOkUptoSaid : Prop := fnExactSpanOkUptoRow.holds Try.pinned (OpenSpec.upto fnExactSpanOkSpec)

/-- 'laws.FnExactSpanNeg', WHERE WHAT IT READS IS OF BULK AT MOST 1048576: true; the input reads as it did. -/
def fnExactSpanNegUptoRow : OpenClaim := { program := "ytjiaanjbgibciaa", sum := "855d4c93eb6bb294628f23392b2e2b0b384dc84ab2668b625a6e5708c5fc186c", func := "loop.example/pinfold/laws.FnExactSpanNeg", spec := "fnExactSpanNeg", apart := false, narrowed := true }
def FnExactSpanNegUptoSaid : Prop := fnExactSpanNegUptoRow.holds Try.pinned (OpenSpec.upto fnExactSpanNegSpec)

/-- 'laws.FnExactSpanMax', WHERE WHAT IT READS IS OF BULK AT MOST 1048576: true; the input reads as it did. -/
def fnExactSpanMaxUptoRow : OpenClaim := { program := "ytjiaanjbgibciaa", sum := "855d4c93eb6bb294628f23392b2e2b0b384dc84ab2668b625a6e5708c5fc186c", func := "loop.example/pinfold/laws.FnExactSpanMax", spec := "fnExactSpanMax", apart := false, narrowed := true }
def FnExactSpanMaxUptoSaid : Prop := fnExactSpanMaxUptoRow.holds Try.pinned (OpenSpec.upto fnExactSpanMaxSpec)

/-- 'laws.FnExactSpanMin', WHERE WHAT IT READS IS OF BULK AT MOST 1048576: true; the input reads as it did. -/
def fnExactSpanMinUptoRow : OpenClaim := { program := "ytjiaanjbgibciaa", sum := "855d4c93eb6bb294628f23392b2e2b0b384dc84ab2668b625a6e5708c5fc186c", func := "loop.example/pinfold/laws.FnExactSpanMin", spec := "fnExactSpanMin", apart := false, narrowed := true }
def FnExactSpanMinUptoSaid : Prop := fnExactSpanMinUptoRow.holds Try.pinned (OpenSpec.upto fnExactSpanMinSpec)

/-- 'laws.FnExactSpanAbs', WHERE WHAT IT READS IS OF BULK AT MOST 1048576: true; the input reads as it did. -/
def fnExactSpanAbsUptoRow : OpenClaim := { program := "ytjiaanjbgibciaa", sum := "855d4c93eb6bb294628f23392b2e2b0b384dc84ab2668b625a6e5708c5fc186c", func := "loop.example/pinfold/laws.FnExactSpanAbs", spec := "fnExactSpanAbs", apart := false, narrowed := true }
def FnExactSpanAbsUptoSaid : Prop := fnExactSpanAbsUptoRow.holds Try.pinned (OpenSpec.upto fnExactSpanAbsSpec)

/-- 'laws.FnExactSpanHull', WHERE WHAT IT READS IS OF BULK AT MOST 1048576: true; the input reads as it did. -/
def fnExactSpanHullUptoRow : OpenClaim := { program := "ytjiaanjbgibciaa", sum := "855d4c93eb6bb294628f23392b2e2b0b384dc84ab2668b625a6e5708c5fc186c", func := "loop.example/pinfold/laws.FnExactSpanHull", spec := "fnExactSpanHull", apart := false, narrowed := true }
def FnExactSpanHullUptoSaid : Prop := fnExactSpanHullUptoRow.holds Try.pinned (OpenSpec.upto fnExactSpanHullSpec)

/-- 'laws.FnExactSpanMeet', WHERE WHAT IT READS IS OF BULK AT MOST 1048576: true; the input reads as it did. -/
def fnExactSpanMeetUptoRow : OpenClaim := { program := "ytjiaanjbgibciaa", sum := "855d4c93eb6bb294628f23392b2e2b0b384dc84ab2668b625a6e5708c5fc186c", func := "loop.example/pinfold/laws.FnExactSpanMeet", spec := "fnExactSpanMeet", apart := false, narrowed := true }
def FnExactSpanMeetUptoSaid : Prop := fnExactSpanMeetUptoRow.holds Try.pinned (OpenSpec.upto fnExactSpanMeetSpec)

/-- 'laws.FnExactBackMin', WHERE WHAT IT READS IS OF BULK AT MOST 1048576: true; the input reads as it did. -/
def fnExactBackMinUptoRow : OpenClaim := { program := "ytjiaanjbgibciaa", sum := "855d4c93eb6bb294628f23392b2e2b0b384dc84ab2668b625a6e5708c5fc186c", func := "loop.example/pinfold/laws.FnExactBackMin", spec := "fnExactBackMin", apart := false, narrowed := true }
def FnExactBackMinUptoSaid : Prop := fnExactBackMinUptoRow.holds Try.pinned (OpenSpec.upto fnExactBackMinSpec)

/-- 'laws.FnExactBackMax', WHERE WHAT IT READS IS OF BULK AT MOST 1048576: true; the input reads as it did. -/
def fnExactBackMaxUptoRow : OpenClaim := { program := "ytjiaanjbgibciaa", sum := "855d4c93eb6bb294628f23392b2e2b0b384dc84ab2668b625a6e5708c5fc186c", func := "loop.example/pinfold/laws.FnExactBackMax", spec := "fnExactBackMax", apart := false, narrowed := true }
def FnExactBackMaxUptoSaid : Prop := fnExactBackMaxUptoRow.holds Try.pinned (OpenSpec.upto fnExactBackMaxSpec)

/-- 'laws.FnExactBackAbs', WHERE WHAT IT READS IS OF BULK AT MOST 1048576: true; the input reads as it did. -/
def fnExactBackAbsUptoRow : OpenClaim := { program := "ytjiaanjbgibciaa", sum := "855d4c93eb6bb294628f23392b2e2b0b384dc84ab2668b625a6e5708c5fc186c", func := "loop.example/pinfold/laws.FnExactBackAbs", spec := "fnExactBackAbs", apart := false, narrowed := true }
def FnExactBackAbsUptoSaid : Prop := fnExactBackAbsUptoRow.holds Try.pinned (OpenSpec.upto fnExactBackAbsSpec)

/-- 'laws.FnExactRelSure', WHERE WHAT IT READS IS OF BULK AT MOST 1048576: true; the input reads as it did. -/
def fnExactRelSureUptoRow : OpenClaim := { program := "ytjiaanjbgibciaa", sum := "855d4c93eb6bb294628f23392b2e2b0b384dc84ab2668b625a6e5708c5fc186c", func := "loop.example/pinfold/laws.FnExactRelSure", spec := "fnExactRelSure", recurses := true, apart := false, narrowed := true }
def FnExactRelSureUptoSaid : Prop := fnExactRelSureUptoRow.holds Try.pinned (OpenSpec.upto fnExactRelSureSpec)

end Rows
end Go.Proofs.Ytjiaanjbgibciaa
