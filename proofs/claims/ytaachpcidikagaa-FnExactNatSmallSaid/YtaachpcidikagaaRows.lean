/-
  No cell of these rows narrows 'for every input' (looked for: loops, veiled, ifaces, maps, wideKeys, modest, calm, conditions, laid).
  DERIVED. THE GIVEN ROWS OF THIS SEAT. 12 by the template 'for every input the law returns true; each argument reads behind the call as it read before'; 0 by the template 'total and deterministic' (their statements: YtaachpcidikagaaTotals.lean).
  GIVEN WITH THE SEED: the statements are not yours to turn. If you find one false, say at which input.
  Laid BY PROGRAM, IN A SANDBOX (cutbox-rows.mjs): the forced cells as the released guide's own fill.sh prints them over the translation eb620c2f8e8b7c9f… (all of the seat's roots in one cut). By AI agents, Wed Nov 11 2026. No macro, syntax, notation, axiom, sorry.
-/
import Derived.Test.YtaachpcidikagaaChecked
import GoSem.Claim
import GoSem.ClaimJoined
import GoSem.ClaimMapViews
import Derived.JoinedTies
import Derived.KernelRfl
namespace Go.Proofs.Ytaachpcidikagaa
/- THE CELL 'sum', in the pinned program and in every row, IS THE sha256 OF THE DUMP (.gsa) THAT YtaachpcidikagaaProg.lean LOADS. Nothing in Lean hashes anything: it is a label: what it is worth is what the hold of that sum in a sandbox is worth. -/
noncomputable def Try.pinned : Pinned := { name := "ytaachpcidikagaa", sum := "eb620c2f8e8b7c9f7cdf69a0cbddb3d99f3238240fc81c52a9b11d774b176aa7", checked := Try.checked }
namespace Rows
def none {H : Type} : Left H := { results := [], args := [] }

/-- 'laws.FnExactNatOk': WHATEVER THE INPUT: true; the input reads as it did. -/
def fnExactNatOkSpec : ChangeSpec := { name := "fnExactNatOk", fn := fun _ => fun
  | [d] => { results := [.lit (.bool true)], args := [d] }
  | _ => none }
def fnExactNatOkRow : OpenClaim := { program := "ytaachpcidikagaa", sum := "eb620c2f8e8b7c9f7cdf69a0cbddb3d99f3238240fc81c52a9b11d774b176aa7", func := "loop.example/pinfold/laws.FnExactNatOk", spec := "fnExactNatOk", unfollowed := true, recurses := true, apart := false }
def FnExactNatOkSaid : Prop := fnExactNatOkRow.holds Try.pinned (OpenSpec.ofChange fnExactNatOkSpec)

/-- ITS FALSE NEIGHBOUR: 'it returns false'. Refute it at one input. -/
def fnExactNatOkWrong : ChangeSpec := { name := "fnExactNatOk", fn := fun _ => fun
  | [d] => { results := [.lit (.bool false)], args := [d] }
  | _ => none }
def FnExactNatOkWrongFalsely : Prop := fnExactNatOkRow.holds Try.pinned (OpenSpec.ofChange fnExactNatOkWrong)

/-- 'laws.FnExactNatOf': WHATEVER THE INPUT: true; the input reads as it did. -/
def fnExactNatOfSpec : ChangeSpec := { name := "fnExactNatOf", fn := fun _ => fun
  | [d] => { results := [.lit (.bool true)], args := [d] }
  | _ => none }
def fnExactNatOfRow : OpenClaim := { program := "ytaachpcidikagaa", sum := "eb620c2f8e8b7c9f7cdf69a0cbddb3d99f3238240fc81c52a9b11d774b176aa7", func := "loop.example/pinfold/laws.FnExactNatOf", spec := "fnExactNatOf", apart := false }
def FnExactNatOfSaid : Prop := fnExactNatOfRow.holds Try.pinned (OpenSpec.ofChange fnExactNatOfSpec)

/-- ITS FALSE NEIGHBOUR: 'it returns false'. Refute it at one input. -/
def fnExactNatOfWrong : ChangeSpec := { name := "fnExactNatOf", fn := fun _ => fun
  | [d] => { results := [.lit (.bool false)], args := [d] }
  | _ => none }
def FnExactNatOfWrongFalsely : Prop := fnExactNatOfRow.holds Try.pinned (OpenSpec.ofChange fnExactNatOfWrong)

/-- 'laws.FnExactNatSmall': WHATEVER THE INPUT: true; the input reads as it did. -/
def fnExactNatSmallSpec : ChangeSpec := { name := "fnExactNatSmall", fn := fun _ => fun
  | [d] => { results := [.lit (.bool true)], args := [d] }
  | _ => none }
def fnExactNatSmallRow : OpenClaim := { program := "ytaachpcidikagaa", sum := "eb620c2f8e8b7c9f7cdf69a0cbddb3d99f3238240fc81c52a9b11d774b176aa7", func := "loop.example/pinfold/laws.FnExactNatSmall", spec := "fnExactNatSmall", unfollowed := true, recurses := true, apart := false }
def FnExactNatSmallSaid : Prop := fnExactNatSmallRow.holds Try.pinned (OpenSpec.ofChange fnExactNatSmallSpec)

/-- ITS FALSE NEIGHBOUR: 'it returns false'. Refute it at one input. -/
def fnExactNatSmallWrong : ChangeSpec := { name := "fnExactNatSmall", fn := fun _ => fun
  | [d] => { results := [.lit (.bool false)], args := [d] }
  | _ => none }
def FnExactNatSmallWrongFalsely : Prop := fnExactNatSmallRow.holds Try.pinned (OpenSpec.ofChange fnExactNatSmallWrong)

/-- 'laws.FnExactNatCmp': WHATEVER THE INPUT: true; the input reads as it did. -/
def fnExactNatCmpSpec : ChangeSpec := { name := "fnExactNatCmp", fn := fun _ => fun
  | [d1, d2] => { results := [.lit (.bool true)], args := [d1, d2] }
  | _ => none }
def fnExactNatCmpRow : OpenClaim := { program := "ytaachpcidikagaa", sum := "eb620c2f8e8b7c9f7cdf69a0cbddb3d99f3238240fc81c52a9b11d774b176aa7", func := "loop.example/pinfold/laws.FnExactNatCmp", spec := "fnExactNatCmp", unfollowed := true, recurses := true, apart := false }
def FnExactNatCmpSaid : Prop := fnExactNatCmpRow.holds Try.pinned (OpenSpec.ofChange fnExactNatCmpSpec)

/-- ITS FALSE NEIGHBOUR: 'it returns false'. Refute it at one input. -/
def fnExactNatCmpWrong : ChangeSpec := { name := "fnExactNatCmp", fn := fun _ => fun
  | [d1, d2] => { results := [.lit (.bool false)], args := [d1, d2] }
  | _ => none }
def FnExactNatCmpWrongFalsely : Prop := fnExactNatCmpRow.holds Try.pinned (OpenSpec.ofChange fnExactNatCmpWrong)

/-- 'laws.FnExactNatBits': WHATEVER THE INPUT: true; the input reads as it did. -/
def fnExactNatBitsSpec : ChangeSpec := { name := "fnExactNatBits", fn := fun _ => fun
  | [d] => { results := [.lit (.bool true)], args := [d] }
  | _ => none }
def fnExactNatBitsRow : OpenClaim := { program := "ytaachpcidikagaa", sum := "eb620c2f8e8b7c9f7cdf69a0cbddb3d99f3238240fc81c52a9b11d774b176aa7", func := "loop.example/pinfold/laws.FnExactNatBits", spec := "fnExactNatBits", unfollowed := true, recurses := true, apart := false }
def FnExactNatBitsSaid : Prop := fnExactNatBitsRow.holds Try.pinned (OpenSpec.ofChange fnExactNatBitsSpec)

/-- ITS FALSE NEIGHBOUR: 'it returns false'. Refute it at one input. -/
def fnExactNatBitsWrong : ChangeSpec := { name := "fnExactNatBits", fn := fun _ => fun
  | [d] => { results := [.lit (.bool false)], args := [d] }
  | _ => none }
def FnExactNatBitsWrongFalsely : Prop := fnExactNatBitsRow.holds Try.pinned (OpenSpec.ofChange fnExactNatBitsWrong)

/-- 'laws.FnExactNatAdd': WHATEVER THE INPUT: true; the input reads as it did. -/
def fnExactNatAddSpec : ChangeSpec := { name := "fnExactNatAdd", fn := fun _ => fun
  | [d1, d2] => { results := [.lit (.bool true)], args := [d1, d2] }
  | _ => none }
def fnExactNatAddRow : OpenClaim := { program := "ytaachpcidikagaa", sum := "eb620c2f8e8b7c9f7cdf69a0cbddb3d99f3238240fc81c52a9b11d774b176aa7", func := "loop.example/pinfold/laws.FnExactNatAdd", spec := "fnExactNatAdd", unfollowed := true, recurses := true, apart := false }
def FnExactNatAddSaid : Prop := fnExactNatAddRow.holds Try.pinned (OpenSpec.ofChange fnExactNatAddSpec)

/-- ITS FALSE NEIGHBOUR: 'it returns false'. Refute it at one input. -/
def fnExactNatAddWrong : ChangeSpec := { name := "fnExactNatAdd", fn := fun _ => fun
  | [d1, d2] => { results := [.lit (.bool false)], args := [d1, d2] }
  | _ => none }
def FnExactNatAddWrongFalsely : Prop := fnExactNatAddRow.holds Try.pinned (OpenSpec.ofChange fnExactNatAddWrong)

/-- 'laws.FnExactNatMul': WHATEVER THE INPUT: true; the input reads as it did. -/
def fnExactNatMulSpec : ChangeSpec := { name := "fnExactNatMul", fn := fun _ => fun
  | [d1, d2] => { results := [.lit (.bool true)], args := [d1, d2] }
  | _ => none }
def fnExactNatMulRow : OpenClaim := { program := "ytaachpcidikagaa", sum := "eb620c2f8e8b7c9f7cdf69a0cbddb3d99f3238240fc81c52a9b11d774b176aa7", func := "loop.example/pinfold/laws.FnExactNatMul", spec := "fnExactNatMul", unfollowed := true, recurses := true, apart := false }
def FnExactNatMulSaid : Prop := fnExactNatMulRow.holds Try.pinned (OpenSpec.ofChange fnExactNatMulSpec)

/-- ITS FALSE NEIGHBOUR: 'it returns false'. Refute it at one input. -/
def fnExactNatMulWrong : ChangeSpec := { name := "fnExactNatMul", fn := fun _ => fun
  | [d1, d2] => { results := [.lit (.bool false)], args := [d1, d2] }
  | _ => none }
def FnExactNatMulWrongFalsely : Prop := fnExactNatMulRow.holds Try.pinned (OpenSpec.ofChange fnExactNatMulWrong)

/-- 'laws.FnExactNatPow': WHATEVER THE INPUT: true; the input reads as it did. -/
def fnExactNatPowSpec : ChangeSpec := { name := "fnExactNatPow", fn := fun _ => fun
  | [d1, d2] => { results := [.lit (.bool true)], args := [d1, d2] }
  | _ => none }
def fnExactNatPowRow : OpenClaim := { program := "ytaachpcidikagaa", sum := "eb620c2f8e8b7c9f7cdf69a0cbddb3d99f3238240fc81c52a9b11d774b176aa7", func := "loop.example/pinfold/laws.FnExactNatPow", spec := "fnExactNatPow", unfollowed := true, recurses := true, apart := false }
def FnExactNatPowSaid : Prop := fnExactNatPowRow.holds Try.pinned (OpenSpec.ofChange fnExactNatPowSpec)

/-- ITS FALSE NEIGHBOUR: 'it returns false'. Refute it at one input. -/
def fnExactNatPowWrong : ChangeSpec := { name := "fnExactNatPow", fn := fun _ => fun
  | [d1, d2] => { results := [.lit (.bool false)], args := [d1, d2] }
  | _ => none }
def FnExactNatPowWrongFalsely : Prop := fnExactNatPowRow.holds Try.pinned (OpenSpec.ofChange fnExactNatPowWrong)

/-- 'laws.FnExactNatSub': WHATEVER THE INPUT: true; the input reads as it did. -/
def fnExactNatSubSpec : ChangeSpec := { name := "fnExactNatSub", fn := fun _ => fun
  | [d1, d2] => { results := [.lit (.bool true)], args := [d1, d2] }
  | _ => none }
def fnExactNatSubRow : OpenClaim := { program := "ytaachpcidikagaa", sum := "eb620c2f8e8b7c9f7cdf69a0cbddb3d99f3238240fc81c52a9b11d774b176aa7", func := "loop.example/pinfold/laws.FnExactNatSub", spec := "fnExactNatSub", unfollowed := true, recurses := true, apart := false }
def FnExactNatSubSaid : Prop := fnExactNatSubRow.holds Try.pinned (OpenSpec.ofChange fnExactNatSubSpec)

/-- ITS FALSE NEIGHBOUR: 'it returns false'. Refute it at one input. -/
def fnExactNatSubWrong : ChangeSpec := { name := "fnExactNatSub", fn := fun _ => fun
  | [d1, d2] => { results := [.lit (.bool false)], args := [d1, d2] }
  | _ => none }
def FnExactNatSubWrongFalsely : Prop := fnExactNatSubRow.holds Try.pinned (OpenSpec.ofChange fnExactNatSubWrong)

/-- 'laws.FnExactNatRead': WHATEVER THE INPUT: true; the input reads as it did. -/
def fnExactNatReadSpec : ChangeSpec := { name := "fnExactNatRead", fn := fun _ => fun
  | [d] => { results := [.lit (.bool true)], args := [d] }
  | _ => none }
def fnExactNatReadRow : OpenClaim := { program := "ytaachpcidikagaa", sum := "eb620c2f8e8b7c9f7cdf69a0cbddb3d99f3238240fc81c52a9b11d774b176aa7", func := "loop.example/pinfold/laws.FnExactNatRead", spec := "fnExactNatRead", apart := false }
def FnExactNatReadSaid : Prop := fnExactNatReadRow.holds Try.pinned (OpenSpec.ofChange fnExactNatReadSpec)

/-- ITS FALSE NEIGHBOUR: 'it returns false'. Refute it at one input. -/
def fnExactNatReadWrong : ChangeSpec := { name := "fnExactNatRead", fn := fun _ => fun
  | [d] => { results := [.lit (.bool false)], args := [d] }
  | _ => none }
def FnExactNatReadWrongFalsely : Prop := fnExactNatReadRow.holds Try.pinned (OpenSpec.ofChange fnExactNatReadWrong)

/-- 'laws.FnExactFracInt': WHATEVER THE INPUT: true; the input reads as it did. -/
def fnExactFracIntSpec : ChangeSpec := { name := "fnExactFracInt", fn := fun _ => fun
  | [d] => { results := [.lit (.bool true)], args := [d] }
  | _ => none }
def fnExactFracIntRow : OpenClaim := { program := "ytaachpcidikagaa", sum := "eb620c2f8e8b7c9f7cdf69a0cbddb3d99f3238240fc81c52a9b11d774b176aa7", func := "loop.example/pinfold/laws.FnExactFracInt", spec := "fnExactFracInt", apart := false }
def FnExactFracIntSaid : Prop := fnExactFracIntRow.holds Try.pinned (OpenSpec.ofChange fnExactFracIntSpec)

/-- ITS FALSE NEIGHBOUR: 'it returns false'. Refute it at one input. -/
def fnExactFracIntWrong : ChangeSpec := { name := "fnExactFracInt", fn := fun _ => fun
  | [d] => { results := [.lit (.bool false)], args := [d] }
  | _ => none }
def FnExactFracIntWrongFalsely : Prop := fnExactFracIntRow.holds Try.pinned (OpenSpec.ofChange fnExactFracIntWrong)

/-- 'laws.FnNatPow': WHATEVER THE INPUT: true; the input reads as it did. -/
def fnNatPowSpec : ChangeSpec := { name := "fnNatPow", fn := fun _ => fun
  | [d1, d2] => { results := [.lit (.bool true)], args := [d1, d2] }
  | _ => none }
def fnNatPowRow : OpenClaim := { program := "ytaachpcidikagaa", sum := "eb620c2f8e8b7c9f7cdf69a0cbddb3d99f3238240fc81c52a9b11d774b176aa7", func := "loop.example/pinfold/laws.FnNatPow", spec := "fnNatPow", unfollowed := true, recurses := true, apart := false }
def FnNatPowSaid : Prop := fnNatPowRow.holds Try.pinned (OpenSpec.ofChange fnNatPowSpec)

/-- ITS FALSE NEIGHBOUR: 'it returns false'. Refute it at one input. -/
def fnNatPowWrong : ChangeSpec := { name := "fnNatPow", fn := fun _ => fun
  | [d1, d2] => { results := [.lit (.bool false)], args := [d1, d2] }
  | _ => none }
def FnNatPowWrongFalsely : Prop := fnNatPowRow.holds Try.pinned (OpenSpec.ofChange fnNatPowWrong)

/- THE SECOND FORM. 'bulk': how many values and letters a reading holds, each counted each time it is reached (what is shared counts as often as it is met; a slice's spare places count too). A statement '..UptoSaid' is the law's where the arguments, and the package variables that the reading takes, are together of bulk at most 1048576: NARROWER than '..Said'. Prove '..Said' where nothing that the law and all that it calls make is longer than what came in: it says more and counts as full. Else prove '..UptoSaid'. A law counts once. -/
mutual
def uptoBulk {H : Type} : DataW H → Nat
  | .lit (.string bytes) => bytes.length + 1
  | .lit _ => 1
  | .nil => 1
  | .ptr d => uptoBulk d + 1
  | .slice elems spare => uptoBulkAll elems + uptoBulkAll spare + 1
  | .agg parts => uptoBulkAll parts + 1
  | .iface _ d => uptoBulk d + 1
  | .map entries => uptoBulkEntries entries + 1
  | .held _ => 1
def uptoBulkAll {H : Type} : List (DataW H) → Nat
  | [] => 0
  | d :: r => uptoBulk d + uptoBulkAll r
def uptoBulkEntries {H : Type} : List (Lit × DataW H) → Nat
  | [] => 0
  | x :: r => uptoBulkEntry x + uptoBulkEntries r
def uptoBulkEntry {H : Type} : Lit × DataW H → Nat
  | (.string bytes, d) => bytes.length + uptoBulk d + 1
  | (_, d) => uptoBulk d + 1
 end
def uptoSmall : (H : Type) → List (DataW H) → Bool := fun _ ds => decide (uptoBulkAll ds ≤ 1048576)
def OpenSpec.upto (s : _root_.Go.ChangeSpec) : _root_.Go.OpenSpec := { _root_.Go.OpenSpec.ofChange s with cond := some uptoSmall }

/-- 'laws.FnExactNatOk', WHERE WHAT IT READS IS OF BULK AT MOST 1048576: true; the input reads as it did. -/
def fnExactNatOkUptoRow : OpenClaim := { program := "ytaachpcidikagaa", sum := "eb620c2f8e8b7c9f7cdf69a0cbddb3d99f3238240fc81c52a9b11d774b176aa7", func := "loop.example/pinfold/laws.FnExactNatOk", spec := "fnExactNatOk", unfollowed := true, recurses := true, apart := false, narrowed := true }
def FnExactNatOkUptoSaid : Prop := fnExactNatOkUptoRow.holds Try.pinned (OpenSpec.upto fnExactNatOkSpec)

/-- 'laws.FnExactNatOf', WHERE WHAT IT READS IS OF BULK AT MOST 1048576: true; the input reads as it did. -/
def fnExactNatOfUptoRow : OpenClaim := { program := "ytaachpcidikagaa", sum := "eb620c2f8e8b7c9f7cdf69a0cbddb3d99f3238240fc81c52a9b11d774b176aa7", func := "loop.example/pinfold/laws.FnExactNatOf", spec := "fnExactNatOf", apart := false, narrowed := true }
def FnExactNatOfUptoSaid : Prop := fnExactNatOfUptoRow.holds Try.pinned (OpenSpec.upto fnExactNatOfSpec)

/-- 'laws.FnExactNatSmall', WHERE WHAT IT READS IS OF BULK AT MOST 1048576: true; the input reads as it did. -/
def fnExactNatSmallUptoRow : OpenClaim := { program := "ytaachpcidikagaa", sum := "eb620c2f8e8b7c9f7cdf69a0cbddb3d99f3238240fc81c52a9b11d774b176aa7", func := "loop.example/pinfold/laws.FnExactNatSmall", spec := "fnExactNatSmall", unfollowed := true, recurses := true, apart := false, narrowed := true }
def FnExactNatSmallUptoSaid : Prop := fnExactNatSmallUptoRow.holds Try.pinned (OpenSpec.upto fnExactNatSmallSpec)

/-- 'laws.FnExactNatCmp', WHERE WHAT IT READS IS OF BULK AT MOST 1048576: true; the input reads as it did. -/
def fnExactNatCmpUptoRow : OpenClaim := { program := "ytaachpcidikagaa", sum := "eb620c2f8e8b7c9f7cdf69a0cbddb3d99f3238240fc81c52a9b11d774b176aa7", func := "loop.example/pinfold/laws.FnExactNatCmp", spec := "fnExactNatCmp", unfollowed := true, recurses := true, apart := false, narrowed := true }
def FnExactNatCmpUptoSaid : Prop := fnExactNatCmpUptoRow.holds Try.pinned (OpenSpec.upto fnExactNatCmpSpec)

/-- 'laws.FnExactNatBits', WHERE WHAT IT READS IS OF BULK AT MOST 1048576: true; the input reads as it did. -/
def fnExactNatBitsUptoRow : OpenClaim := { program := "ytaachpcidikagaa", sum := "eb620c2f8e8b7c9f7cdf69a0cbddb3d99f3238240fc81c52a9b11d774b176aa7", func := "loop.example/pinfold/laws.FnExactNatBits", spec := "fnExactNatBits", unfollowed := true, recurses := true, apart := false, narrowed := true }
def FnExactNatBitsUptoSaid : Prop := fnExactNatBitsUptoRow.holds Try.pinned (OpenSpec.upto fnExactNatBitsSpec)

/-- 'laws.FnExactNatAdd', WHERE WHAT IT READS IS OF BULK AT MOST 1048576: true; the input reads as it did. -/
def fnExactNatAddUptoRow : OpenClaim := { program := "ytaachpcidikagaa", sum := "eb620c2f8e8b7c9f7cdf69a0cbddb3d99f3238240fc81c52a9b11d774b176aa7", func := "loop.example/pinfold/laws.FnExactNatAdd", spec := "fnExactNatAdd", unfollowed := true, recurses := true, apart := false, narrowed := true }
def FnExactNatAddUptoSaid : Prop := fnExactNatAddUptoRow.holds Try.pinned (OpenSpec.upto fnExactNatAddSpec)

/-- 'laws.FnExactNatMul', WHERE WHAT IT READS IS OF BULK AT MOST 1048576: true; the input reads as it did. -/
def fnExactNatMulUptoRow : OpenClaim := { program := "ytaachpcidikagaa", sum := "eb620c2f8e8b7c9f7cdf69a0cbddb3d99f3238240fc81c52a9b11d774b176aa7", func := "loop.example/pinfold/laws.FnExactNatMul", spec := "fnExactNatMul", unfollowed := true, recurses := true, apart := false, narrowed := true }
def FnExactNatMulUptoSaid : Prop := fnExactNatMulUptoRow.holds Try.pinned (OpenSpec.upto fnExactNatMulSpec)

/-- 'laws.FnExactNatPow', WHERE WHAT IT READS IS OF BULK AT MOST 1048576: true; the input reads as it did. -/
def fnExactNatPowUptoRow : OpenClaim := { program := "ytaachpcidikagaa", sum := "eb620c2f8e8b7c9f7cdf69a0cbddb3d99f3238240fc81c52a9b11d774b176aa7", func := "loop.example/pinfold/laws.FnExactNatPow", spec := "fnExactNatPow", unfollowed := true, recurses := true, apart := false, narrowed := true }
def FnExactNatPowUptoSaid : Prop := fnExactNatPowUptoRow.holds Try.pinned (OpenSpec.upto fnExactNatPowSpec)

/-- 'laws.FnExactNatSub', WHERE WHAT IT READS IS OF BULK AT MOST 1048576: true; the input reads as it did. -/
def fnExactNatSubUptoRow : OpenClaim := { program := "ytaachpcidikagaa", sum := "eb620c2f8e8b7c9f7cdf69a0cbddb3d99f3238240fc81c52a9b11d774b176aa7", func := "loop.example/pinfold/laws.FnExactNatSub", spec := "fnExactNatSub", unfollowed := true, recurses := true, apart := false, narrowed := true }
def FnExactNatSubUptoSaid : Prop := fnExactNatSubUptoRow.holds Try.pinned (OpenSpec.upto fnExactNatSubSpec)

/-- 'laws.FnExactNatRead', WHERE WHAT IT READS IS OF BULK AT MOST 1048576: true; the input reads as it did. -/
def fnExactNatReadUptoRow : OpenClaim := { program := "ytaachpcidikagaa", sum := "eb620c2f8e8b7c9f7cdf69a0cbddb3d99f3238240fc81c52a9b11d774b176aa7", func := "loop.example/pinfold/laws.FnExactNatRead", spec := "fnExactNatRead", apart := false, narrowed := true }
def FnExactNatReadUptoSaid : Prop := fnExactNatReadUptoRow.holds Try.pinned (OpenSpec.upto fnExactNatReadSpec)

/-- 'laws.FnExactFracInt', WHERE WHAT IT READS IS OF BULK AT MOST 1048576: true; the input reads as it did. -/
def fnExactFracIntUptoRow : OpenClaim := { program := "ytaachpcidikagaa", sum := "eb620c2f8e8b7c9f7cdf69a0cbddb3d99f3238240fc81c52a9b11d774b176aa7", func := "loop.example/pinfold/laws.FnExactFracInt", spec := "fnExactFracInt", apart := false, narrowed := true }
def FnExactFracIntUptoSaid : Prop := fnExactFracIntUptoRow.holds Try.pinned (OpenSpec.upto fnExactFracIntSpec)

/-- 'laws.FnNatPow', WHERE WHAT IT READS IS OF BULK AT MOST 1048576: true; the input reads as it did. -/
def fnNatPowUptoRow : OpenClaim := { program := "ytaachpcidikagaa", sum := "eb620c2f8e8b7c9f7cdf69a0cbddb3d99f3238240fc81c52a9b11d774b176aa7", func := "loop.example/pinfold/laws.FnNatPow", spec := "fnNatPow", unfollowed := true, recurses := true, apart := false, narrowed := true }
def FnNatPowUptoSaid : Prop := fnNatPowUptoRow.holds Try.pinned (OpenSpec.upto fnNatPowSpec)

end Rows
end Go.Proofs.Ytaachpcidikagaa
