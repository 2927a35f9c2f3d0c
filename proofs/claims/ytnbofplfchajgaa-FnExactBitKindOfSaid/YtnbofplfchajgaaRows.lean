/-
  No cell of these rows narrows 'for every input' (looked for: loops, veiled, ifaces, maps, wideKeys, modest, calm, conditions, laid).
  DERIVED. THE GIVEN ROWS OF THIS SEAT. 12 by the template 'for every input the law returns true; each argument reads behind the call as it read before'; 0 by the template 'total and deterministic' (their statements: YtnbofplfchajgaaTotals.lean).
  GIVEN WITH THE SEED: the statements are not yours to turn. If you find one false, say at which input.
  Laid BY PROGRAM, IN A SANDBOX (cutbox-rows.mjs): the forced cells as the released guide's own fill.sh prints them over the translation 5943b70897f65283… (all of the seat's roots in one cut). By AI agents, Wed Nov 11 2026. No macro, syntax, notation, axiom, sorry.
-/
import Derived.Test.YtnbofplfchajgaaChecked
import GoSem.Claim
import GoSem.ClaimJoined
import GoSem.ClaimMapViews
import Derived.JoinedTies
import Derived.KernelRfl
namespace Go.Proofs.Ytnbofplfchajgaa
/- THE CELL 'sum', in the pinned program and in every row, IS THE sha256 OF THE DUMP (.gsa) THAT YtnbofplfchajgaaProg.lean LOADS. Nothing in Lean hashes anything: it is a label: what it is worth is what the hold of that sum in a sandbox is worth. -/
noncomputable def Try.pinned : Pinned := { name := "ytnbofplfchajgaa", sum := "5943b70897f6528323932d14e2603b13bb793f6f94788f14f522ce8813514ea1", checked := Try.checked }
namespace Rows
def none {H : Type} : Left H := { results := [], args := [] }

/-- 'laws.FnExactConstants': WHATEVER THE INPUT: true; the input reads as it did. -/
def fnExactConstantsSpec : ChangeSpec := { name := "fnExactConstants", fn := fun _ => fun
  | [] => { results := [.lit (.bool true)], args := [] }
  | _ => none }
def fnExactConstantsRow : OpenClaim := { program := "ytnbofplfchajgaa", sum := "5943b70897f6528323932d14e2603b13bb793f6f94788f14f522ce8813514ea1", func := "loop.example/pinfold/laws.FnExactConstants", spec := "fnExactConstants", apart := false }
def FnExactConstantsSaid : Prop := fnExactConstantsRow.holds Try.pinned (OpenSpec.ofChange fnExactConstantsSpec)

/-- ITS FALSE NEIGHBOUR: 'it returns false'. Refute it at one input. -/
def fnExactConstantsWrong : ChangeSpec := { name := "fnExactConstants", fn := fun _ => fun
  | [] => { results := [.lit (.bool false)], args := [] }
  | _ => none }
def FnExactConstantsWrongFalsely : Prop := fnExactConstantsRow.holds Try.pinned (OpenSpec.ofChange fnExactConstantsWrong)

/-- 'laws.FnExactPairIs': WHATEVER THE INPUT: true; the input reads as it did. -/
def fnExactPairIsSpec : ChangeSpec := { name := "fnExactPairIs", fn := fun _ => fun
  | [d1, d2] => { results := [.lit (.bool true)], args := [d1, d2] }
  | _ => none }
def fnExactPairIsRow : OpenClaim := { program := "ytnbofplfchajgaa", sum := "5943b70897f6528323932d14e2603b13bb793f6f94788f14f522ce8813514ea1", func := "loop.example/pinfold/laws.FnExactPairIs", spec := "fnExactPairIs", apart := false }
def FnExactPairIsSaid : Prop := fnExactPairIsRow.holds Try.pinned (OpenSpec.ofChange fnExactPairIsSpec)

/-- ITS FALSE NEIGHBOUR: 'it returns false'. Refute it at one input. -/
def fnExactPairIsWrong : ChangeSpec := { name := "fnExactPairIs", fn := fun _ => fun
  | [d1, d2] => { results := [.lit (.bool false)], args := [d1, d2] }
  | _ => none }
def FnExactPairIsWrongFalsely : Prop := fnExactPairIsRow.holds Try.pinned (OpenSpec.ofChange fnExactPairIsWrong)

/-- 'laws.FnExactBitGap': WHATEVER THE INPUT: true; the input reads as it did. -/
def fnExactBitGapSpec : ChangeSpec := { name := "fnExactBitGap", fn := fun _ => fun
  | [d1, d2] => { results := [.lit (.bool true)], args := [d1, d2] }
  | _ => none }
def fnExactBitGapRow : OpenClaim := { program := "ytnbofplfchajgaa", sum := "5943b70897f6528323932d14e2603b13bb793f6f94788f14f522ce8813514ea1", func := "loop.example/pinfold/laws.FnExactBitGap", spec := "fnExactBitGap", apart := false }
def FnExactBitGapSaid : Prop := fnExactBitGapRow.holds Try.pinned (OpenSpec.ofChange fnExactBitGapSpec)

/-- ITS FALSE NEIGHBOUR: 'it returns false'. Refute it at one input. -/
def fnExactBitGapWrong : ChangeSpec := { name := "fnExactBitGap", fn := fun _ => fun
  | [d1, d2] => { results := [.lit (.bool false)], args := [d1, d2] }
  | _ => none }
def FnExactBitGapWrongFalsely : Prop := fnExactBitGapRow.holds Try.pinned (OpenSpec.ofChange fnExactBitGapWrong)

/-- 'laws.FnExactBitMiddle': WHATEVER THE INPUT: true; the input reads as it did. -/
def fnExactBitMiddleSpec : ChangeSpec := { name := "fnExactBitMiddle", fn := fun _ => fun
  | [d1, d2] => { results := [.lit (.bool true)], args := [d1, d2] }
  | _ => none }
def fnExactBitMiddleRow : OpenClaim := { program := "ytnbofplfchajgaa", sum := "5943b70897f6528323932d14e2603b13bb793f6f94788f14f522ce8813514ea1", func := "loop.example/pinfold/laws.FnExactBitMiddle", spec := "fnExactBitMiddle", apart := false }
def FnExactBitMiddleSaid : Prop := fnExactBitMiddleRow.holds Try.pinned (OpenSpec.ofChange fnExactBitMiddleSpec)

/-- ITS FALSE NEIGHBOUR: 'it returns false'. Refute it at one input. -/
def fnExactBitMiddleWrong : ChangeSpec := { name := "fnExactBitMiddle", fn := fun _ => fun
  | [d1, d2] => { results := [.lit (.bool false)], args := [d1, d2] }
  | _ => none }
def FnExactBitMiddleWrongFalsely : Prop := fnExactBitMiddleRow.holds Try.pinned (OpenSpec.ofChange fnExactBitMiddleWrong)

/-- 'laws.FnExactBitTop': WHATEVER THE INPUT: true; the input reads as it did. -/
def fnExactBitTopSpec : ChangeSpec := { name := "fnExactBitTop", fn := fun _ => fun
  | [d] => { results := [.lit (.bool true)], args := [d] }
  | _ => none }
def fnExactBitTopRow : OpenClaim := { program := "ytnbofplfchajgaa", sum := "5943b70897f6528323932d14e2603b13bb793f6f94788f14f522ce8813514ea1", func := "loop.example/pinfold/laws.FnExactBitTop", spec := "fnExactBitTop", apart := false }
def FnExactBitTopSaid : Prop := fnExactBitTopRow.holds Try.pinned (OpenSpec.ofChange fnExactBitTopSpec)

/-- ITS FALSE NEIGHBOUR: 'it returns false'. Refute it at one input. -/
def fnExactBitTopWrong : ChangeSpec := { name := "fnExactBitTop", fn := fun _ => fun
  | [d] => { results := [.lit (.bool false)], args := [d] }
  | _ => none }
def FnExactBitTopWrongFalsely : Prop := fnExactBitTopRow.holds Try.pinned (OpenSpec.ofChange fnExactBitTopWrong)

/-- 'laws.FnExactBitOk': WHATEVER THE INPUT: true; the input reads as it did. -/
def fnExactBitOkSpec : ChangeSpec := { name := "fnExactBitOk", fn := fun _ => fun
  | [d1, d2] => { results := [.lit (.bool true)], args := [d1, d2] }
  | _ => none }
def fnExactBitOkRow : OpenClaim := { program := "ytnbofplfchajgaa", sum := "5943b70897f6528323932d14e2603b13bb793f6f94788f14f522ce8813514ea1", func := "loop.example/pinfold/laws.FnExactBitOk", spec := "fnExactBitOk", apart := false }
def FnExactBitOkSaid : Prop := fnExactBitOkRow.holds Try.pinned (OpenSpec.ofChange fnExactBitOkSpec)

/-- ITS FALSE NEIGHBOUR: 'it returns false'. Refute it at one input. -/
def fnExactBitOkWrong : ChangeSpec := { name := "fnExactBitOk", fn := fun _ => fun
  | [d1, d2] => { results := [.lit (.bool false)], args := [d1, d2] }
  | _ => none }
def FnExactBitOkWrongFalsely : Prop := fnExactBitOkRow.holds Try.pinned (OpenSpec.ofChange fnExactBitOkWrong)

/-- 'laws.FnExactBitBits': WHATEVER THE INPUT: true; the input reads as it did. -/
def fnExactBitBitsSpec : ChangeSpec := { name := "fnExactBitBits", fn := fun _ => fun
  | [d1, d2] => { results := [.lit (.bool true)], args := [d1, d2] }
  | _ => none }
def fnExactBitBitsRow : OpenClaim := { program := "ytnbofplfchajgaa", sum := "5943b70897f6528323932d14e2603b13bb793f6f94788f14f522ce8813514ea1", func := "loop.example/pinfold/laws.FnExactBitBits", spec := "fnExactBitBits", apart := false }
def FnExactBitBitsSaid : Prop := fnExactBitBitsRow.holds Try.pinned (OpenSpec.ofChange fnExactBitBitsSpec)

/-- ITS FALSE NEIGHBOUR: 'it returns false'. Refute it at one input. -/
def fnExactBitBitsWrong : ChangeSpec := { name := "fnExactBitBits", fn := fun _ => fun
  | [d1, d2] => { results := [.lit (.bool false)], args := [d1, d2] }
  | _ => none }
def FnExactBitBitsWrongFalsely : Prop := fnExactBitBitsRow.holds Try.pinned (OpenSpec.ofChange fnExactBitBitsWrong)

/-- 'laws.FnExactPairOk': WHATEVER THE INPUT: true; the input reads as it did. -/
def fnExactPairOkSpec : ChangeSpec := { name := "fnExactPairOk", fn := fun _ => fun
  | [d1, d2] => { results := [.lit (.bool true)], args := [d1, d2] }
  | _ => none }
def fnExactPairOkRow : OpenClaim := { program := "ytnbofplfchajgaa", sum := "5943b70897f6528323932d14e2603b13bb793f6f94788f14f522ce8813514ea1", func := "loop.example/pinfold/laws.FnExactPairOk", spec := "fnExactPairOk", apart := false }
def FnExactPairOkSaid : Prop := fnExactPairOkRow.holds Try.pinned (OpenSpec.ofChange fnExactPairOkSpec)

/-- ITS FALSE NEIGHBOUR: 'it returns false'. Refute it at one input. -/
def fnExactPairOkWrong : ChangeSpec := { name := "fnExactPairOk", fn := fun _ => fun
  | [d1, d2] => { results := [.lit (.bool false)], args := [d1, d2] }
  | _ => none }
def FnExactPairOkWrongFalsely : Prop := fnExactPairOkRow.holds Try.pinned (OpenSpec.ofChange fnExactPairOkWrong)

/-- 'laws.FnExactBitUp': WHATEVER THE INPUT: true; the input reads as it did. -/
def fnExactBitUpSpec : ChangeSpec := { name := "fnExactBitUp", fn := fun _ => fun
  | [d1, d2] => { results := [.lit (.bool true)], args := [d1, d2] }
  | _ => none }
def fnExactBitUpRow : OpenClaim := { program := "ytnbofplfchajgaa", sum := "5943b70897f6528323932d14e2603b13bb793f6f94788f14f522ce8813514ea1", func := "loop.example/pinfold/laws.FnExactBitUp", spec := "fnExactBitUp", apart := false }
def FnExactBitUpSaid : Prop := fnExactBitUpRow.holds Try.pinned (OpenSpec.ofChange fnExactBitUpSpec)

/-- ITS FALSE NEIGHBOUR: 'it returns false'. Refute it at one input. -/
def fnExactBitUpWrong : ChangeSpec := { name := "fnExactBitUp", fn := fun _ => fun
  | [d1, d2] => { results := [.lit (.bool false)], args := [d1, d2] }
  | _ => none }
def FnExactBitUpWrongFalsely : Prop := fnExactBitUpRow.holds Try.pinned (OpenSpec.ofChange fnExactBitUpWrong)

/-- 'laws.FnExactBitDown': WHATEVER THE INPUT: true; the input reads as it did. -/
def fnExactBitDownSpec : ChangeSpec := { name := "fnExactBitDown", fn := fun _ => fun
  | [d1, d2] => { results := [.lit (.bool true)], args := [d1, d2] }
  | _ => none }
def fnExactBitDownRow : OpenClaim := { program := "ytnbofplfchajgaa", sum := "5943b70897f6528323932d14e2603b13bb793f6f94788f14f522ce8813514ea1", func := "loop.example/pinfold/laws.FnExactBitDown", spec := "fnExactBitDown", apart := false }
def FnExactBitDownSaid : Prop := fnExactBitDownRow.holds Try.pinned (OpenSpec.ofChange fnExactBitDownSpec)

/-- ITS FALSE NEIGHBOUR: 'it returns false'. Refute it at one input. -/
def fnExactBitDownWrong : ChangeSpec := { name := "fnExactBitDown", fn := fun _ => fun
  | [d1, d2] => { results := [.lit (.bool false)], args := [d1, d2] }
  | _ => none }
def FnExactBitDownWrongFalsely : Prop := fnExactBitDownRow.holds Try.pinned (OpenSpec.ofChange fnExactBitDownWrong)

/-- 'laws.FnExactBitOrd': WHATEVER THE INPUT: true; the input reads as it did. -/
def fnExactBitOrdSpec : ChangeSpec := { name := "fnExactBitOrd", fn := fun _ => fun
  | [d1, d2] => { results := [.lit (.bool true)], args := [d1, d2] }
  | _ => none }
def fnExactBitOrdRow : OpenClaim := { program := "ytnbofplfchajgaa", sum := "5943b70897f6528323932d14e2603b13bb793f6f94788f14f522ce8813514ea1", func := "loop.example/pinfold/laws.FnExactBitOrd", spec := "fnExactBitOrd", apart := false }
def FnExactBitOrdSaid : Prop := fnExactBitOrdRow.holds Try.pinned (OpenSpec.ofChange fnExactBitOrdSpec)

/-- ITS FALSE NEIGHBOUR: 'it returns false'. Refute it at one input. -/
def fnExactBitOrdWrong : ChangeSpec := { name := "fnExactBitOrd", fn := fun _ => fun
  | [d1, d2] => { results := [.lit (.bool false)], args := [d1, d2] }
  | _ => none }
def FnExactBitOrdWrongFalsely : Prop := fnExactBitOrdRow.holds Try.pinned (OpenSpec.ofChange fnExactBitOrdWrong)

/-- 'laws.FnExactBitKindOf': WHATEVER THE INPUT: true; the input reads as it did. -/
def fnExactBitKindOfSpec : ChangeSpec := { name := "fnExactBitKindOf", fn := fun _ => fun
  | [d1, d2] => { results := [.lit (.bool true)], args := [d1, d2] }
  | _ => none }
def fnExactBitKindOfRow : OpenClaim := { program := "ytnbofplfchajgaa", sum := "5943b70897f6528323932d14e2603b13bb793f6f94788f14f522ce8813514ea1", func := "loop.example/pinfold/laws.FnExactBitKindOf", spec := "fnExactBitKindOf", apart := false }
def FnExactBitKindOfSaid : Prop := fnExactBitKindOfRow.holds Try.pinned (OpenSpec.ofChange fnExactBitKindOfSpec)

/-- ITS FALSE NEIGHBOUR: 'it returns false'. Refute it at one input. -/
def fnExactBitKindOfWrong : ChangeSpec := { name := "fnExactBitKindOf", fn := fun _ => fun
  | [d1, d2] => { results := [.lit (.bool false)], args := [d1, d2] }
  | _ => none }
def FnExactBitKindOfWrongFalsely : Prop := fnExactBitKindOfRow.holds Try.pinned (OpenSpec.ofChange fnExactBitKindOfWrong)

/- THE SECOND FORM. 'bulk': how many values and letters a reading holds, each counted each time it is reached (what is shared counts as often as it is met; a slice's spare places count too). A statement '..UptoSaid' is the law's where the arguments, and the package variables that the reading takes, are together of bulk at most 1048576: NARROWER than '..Said'. Prove '..Said' where nothing that the law and all that it calls make is longer than what came in: it says more and counts as full. Else prove '..UptoSaid'. A law counts once. -/
mutual
def uptoBulk {H : Type} : DataW H → Nat
  | .lit (.string bytes) => bytes.length + 1
  | .lit _ => 1
  | .nil => 1
  | .ptr d => uptoBulk d + 1
  | .slice elems spare => uptoBulkAll elems + uptoBulkAll spare + 1
  | .agg parts => uptoBulkAll parts + 1
  | .iface _ d => uptoBulk d + 1
  | .map entries => uptoBulkEntries entries + 1
  | .held _ => 1
def uptoBulkAll {H : Type} : List (DataW H) → Nat
  | [] => 0
  | d :: r => uptoBulk d + uptoBulkAll r
def uptoBulkEntries {H : Type} : List (Lit × DataW H) → Nat
  | [] => 0
  | x :: r => uptoBulkEntry x + uptoBulkEntries r
def uptoBulkEntry {H : Type} : Lit × DataW H → Nat
  | (.string bytes, d) => bytes.length + uptoBulk d + 1
  | (_, d) => uptoBulk d + 1
 end
def uptoSmall : (H : Type) → List (DataW H) → Bool := fun _ ds => decide (uptoBulkAll ds ≤ 1048576)
def OpenSpec.upto (s : _root_.Go.ChangeSpec) : _root_.Go.OpenSpec := { _root_.Go.OpenSpec.ofChange s with cond := some uptoSmall }

/-- 'laws.FnExactConstants', WHERE WHAT IT READS IS OF BULK AT MOST 1048576: true; the input reads as it did. -/
def fnExactConstantsUptoRow : OpenClaim := { program := "ytnbofplfchajgaa", sum := "5943b70897f6528323932d14e2603b13bb793f6f94788f14f522ce8813514ea1", func := "loop.example/pinfold/laws.FnExactConstants", spec := "fnExactConstants", apart := false, narrowed := true }
def FnExactConstantsUptoSaid : Prop := fnExactConstantsUptoRow.holds Try.pinned (OpenSpec.upto fnExactConstantsSpec)

/-- 'laws.FnExactPairIs', WHERE WHAT IT READS IS OF BULK AT MOST 1048576: true; the input reads as it did. -/
def fnExactPairIsUptoRow : OpenClaim := { program := "ytnbofplfchajgaa", sum := "5943b70897f6528323932d14e2603b13bb793f6f94788f14f522ce8813514ea1", func := "loop.example/pinfold/laws.FnExactPairIs", spec := "fnExactPairIs", apart := false, narrowed := true }
def FnExactPairIsUptoSaid : Prop := fnExactPairIsUptoRow.holds Try.pinned (OpenSpec.upto fnExactPairIsSpec)

/-- 'laws.FnExactBitGap', WHERE WHAT IT READS IS OF BULK AT MOST 1048576: true; the input reads as it did. -/
def fnExactBitGapUptoRow : OpenClaim := { program := "ytnbofplfchajgaa", sum := "5943b70897f6528323932d14e2603b13bb793f6f94788f14f522ce8813514ea1", func := "loop.example/pinfold/laws.FnExactBitGap", spec := "fnExactBitGap", apart := false, narrowed := true }
def FnExactBitGapUptoSaid : Prop := fnExactBitGapUptoRow.holds Try.pinned (OpenSpec.upto fnExactBitGapSpec)

/-- 'laws.FnExactBitMiddle', WHERE WHAT IT READS IS OF BULK AT MOST 1048576: true; the input reads as it did. -/
def fnExactBitMiddleUptoRow : OpenClaim := { program := "ytnbofplfchajgaa", sum := "5943b70897f6528323932d14e2603b13bb793f6f94788f14f522ce8813514ea1", func := "loop.example/pinfold/laws.FnExactBitMiddle", spec := "fnExactBitMiddle", apart := false, narrowed := true }
def FnExactBitMiddleUptoSaid : Prop := fnExactBitMiddleUptoRow.holds Try.pinned (OpenSpec.upto fnExactBitMiddleSpec)

/-- 'laws.FnExactBitTop', WHERE WHAT IT READS IS OF BULK AT MOST 1048576: true; the input reads as it did. -/
def fnExactBitTopUptoRow : OpenClaim := { program := "ytnbofplfchajgaa", sum := "5943b70897f6528323932d14e2603b13bb793f6f94788f14f522ce8813514ea1", func := "loop.example/pinfold/laws.FnExactBitTop", spec := "fnExactBitTop", apart := false, narrowed := true }
def FnExactBitTopUptoSaid : Prop := fnExactBitTopUptoRow.holds Try.pinned (OpenSpec.upto fnExactBitTopSpec)

/-- 'laws.FnExactBitOk', WHERE WHAT IT READS IS OF BULK AT MOST 1048576: true; the input reads as it did. -/
def fnExactBitOkUptoRow : OpenClaim := { program := "ytnbofplfchajgaa", sum := "5943b70897f6528323932d14e2603b13bb793f6f94788f14f522ce8813514ea1", func := "loop.example/pinfold/laws.FnExactBitOk", spec := "fnExactBitOk", apart := false, narrowed := true }
def FnExactBitOkUptoSaid : Prop := fnExactBitOkUptoRow.holds Try.pinned (OpenSpec.upto fnExactBitOkSpec)

/-- 'laws.FnExactBitBits', WHERE WHAT IT READS IS OF BULK AT MOST 1048576: true; the input reads as it did. -/
def fnExactBitBitsUptoRow : OpenClaim := { program := "ytnbofplfchajgaa", sum := "5943b70897f6528323932d14e2603b13bb793f6f94788f14f522ce8813514ea1", func := "loop.example/pinfold/laws.FnExactBitBits", spec := "fnExactBitBits", apart := false, narrowed := true }
def FnExactBitBitsUptoSaid : Prop := fnExactBitBitsUptoRow.holds Try.pinned (OpenSpec.upto fnExactBitBitsSpec)

/-- 'laws.FnExactPairOk', WHERE WHAT IT READS IS OF BULK AT MOST 1048576: true; the input reads as it did. -/
def fnExactPairOkUptoRow : OpenClaim := { program := "ytnbofplfchajgaa", sum := "5943b70897f6528323932d14e2603b13bb793f6f94788f14f522ce8813514ea1", func := "loop.example/pinfold/laws.FnExactPairOk", spec := "fnExactPairOk", apart := false, narrowed := true }
def FnExactPairOkUptoSaid : Prop := fnExactPairOkUptoRow.holds Try.pinned (OpenSpec.upto fnExactPairOkSpec)

/-- 'laws.FnExactBitUp', WHERE WHAT IT READS IS OF BULK AT MOST 1048576: true; the input reads as it did. -/
def fnExactBitUpUptoRow : OpenClaim := { program := "ytnbofplfchajgaa", sum := "5943b70897f6528323932d14e2603b13bb793f6f94788f14f522ce8813514ea1", func := "loop.example/pinfold/laws.FnExactBitUp", spec := "fnExactBitUp", apart := false, narrowed := true }
def FnExactBitUpUptoSaid : Prop := fnExactBitUpUptoRow.holds Try.pinned (OpenSpec.upto fnExactBitUpSpec)

/-- 'laws.FnExactBitDown', WHERE WHAT IT READS IS OF BULK AT MOST 1048576: true; the input reads as it did. -/
def fnExactBitDownUptoRow : OpenClaim := { program := "ytnbofplfchajgaa", sum := "5943b70897f6528323932d14e2603b13bb793f6f94788f14f522ce8813514ea1", func := "loop.example/pinfold/laws.FnExactBitDown", spec := "fnExactBitDown", apart := false, narrowed := true }
def FnExactBitDownUptoSaid : Prop := fnExactBitDownUptoRow.holds Try.pinned (OpenSpec.upto fnExactBitDownSpec)

/-- 'laws.FnExactBitOrd', WHERE WHAT IT READS IS OF BULK AT MOST 1048576: true; the input reads as it did. -/
def fnExactBitOrdUptoRow : OpenClaim := { program := "ytnbofplfchajgaa", sum := "5943b70897f6528323932d14e2603b13bb793f6f94788f14f522ce8813514ea1", func := "loop.example/pinfold/laws.FnExactBitOrd", spec := "fnExactBitOrd", apart := false, narrowed := true }
def FnExactBitOrdUptoSaid : Prop := fnExactBitOrdUptoRow.holds Try.pinned (OpenSpec.upto fnExactBitOrdSpec)

/-- 'laws.FnExactBitKindOf', WHERE WHAT IT READS IS OF BULK AT MOST 1048576: true; the input reads as it did. -/
def fnExactBitKindOfUptoRow : OpenClaim := { program := "ytnbofplfchajgaa", sum := "5943b70897f6528323932d14e2603b13bb793f6f94788f14f522ce8813514ea1", func := "loop.example/pinfold/laws.FnExactBitKindOf", spec := "fnExactBitKindOf", apart := false, narrowed := true }
def FnExactBitKindOfUptoSaid : Prop := fnExactBitKindOfUptoRow.holds Try.pinned (OpenSpec.upto fnExactBitKindOfSpec)

end Rows
end Go.Proofs.Ytnbofplfchajgaa
