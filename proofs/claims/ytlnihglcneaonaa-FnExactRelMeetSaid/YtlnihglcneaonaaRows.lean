/-
  No cell of these rows narrows 'for every input' (looked for: loops, veiled, ifaces, maps, wideKeys, modest, calm, conditions, laid).
  DERIVED. THE GIVEN ROWS OF THIS SEAT. 6 by the template 'for every input the law returns true; each argument reads behind the call as it read before'; 0 by the template 'total and deterministic' (their statements: YtlnihglcneaonaaTotals.lean).
  GIVEN WITH THE SEED: the statements are not yours to turn. If you find one false, say at which input.
  Laid BY PROGRAM, IN A SANDBOX (cutbox-rows.mjs): the forced cells as the released guide's own fill.sh prints them over the translation 50d25dd63849ec0d… (all of the seat's roots in one cut). By AI agents, Wed Nov 11 2026. No macro, syntax, notation, axiom, sorry.
-/
import Derived.Test.YtlnihglcneaonaaChecked
import GoSem.Claim
import GoSem.ClaimJoined
import GoSem.ClaimMapViews
import Derived.JoinedTies
import Derived.KernelRfl
namespace Go.Proofs.Ytlnihglcneaonaa
/- THE CELL 'sum', in the pinned program and in every row, IS THE sha256 OF THE DUMP (.gsa) THAT YtlnihglcneaonaaProg.lean LOADS. Nothing in Lean hashes anything: it is a label: what it is worth is what the hold of that sum in a sandbox is worth. -/
noncomputable def Try.pinned : Pinned := { name := "ytlnihglcneaonaa", sum := "50d25dd63849ec0db9e3bf598fafe63b39203ac6e9bd22dd21b03d26ee451d56", checked := Try.checked }
namespace Rows
def none {H : Type} : Left H := { results := [], args := [] }

/-- 'laws.FnExactRelMeet': WHATEVER THE INPUT: true; the input reads as it did. -/
def fnExactRelMeetSpec : ChangeSpec := { name := "fnExactRelMeet", fn := fun _ => fun
  | [d1, d2, d3, d4] => { results := [.lit (.bool true)], args := [d1, d2, d3, d4] }
  | _ => none }
def fnExactRelMeetRow : OpenClaim := { program := "ytlnihglcneaonaa", sum := "50d25dd63849ec0db9e3bf598fafe63b39203ac6e9bd22dd21b03d26ee451d56", func := "loop.example/pinfold/laws.FnExactRelMeet", spec := "fnExactRelMeet", recurses := true, apart := false }
def FnExactRelMeetSaid : Prop := fnExactRelMeetRow.holds Try.pinned (OpenSpec.ofChange fnExactRelMeetSpec)

/-- ITS FALSE NEIGHBOUR: 'it returns false'. Refute it at one input. -/
def fnExactRelMeetWrong : ChangeSpec := { name := "fnExactRelMeet", fn := fun _ => fun
  | [d1, d2, d3, d4] => { results := [.lit (.bool false)], args := [d1, d2, d3, d4] }
  | _ => none }
def FnExactRelMeetWrongFalsely : Prop := fnExactRelMeetRow.holds Try.pinned (OpenSpec.ofChange fnExactRelMeetWrong)

/-- 'laws.FnExactBoxIs': WHATEVER THE INPUT: true; the input reads as it did. -/
def fnExactBoxIsSpec : ChangeSpec := { name := "fnExactBoxIs", fn := fun _ => fun
  | [d1, d2] => { results := [.lit (.bool true)], args := [d1, d2] }
  | _ => none }
def fnExactBoxIsRow : OpenClaim := { program := "ytlnihglcneaonaa", sum := "50d25dd63849ec0db9e3bf598fafe63b39203ac6e9bd22dd21b03d26ee451d56", func := "loop.example/pinfold/laws.FnExactBoxIs", spec := "fnExactBoxIs", unfollowed := true, recurses := true, apart := false }
def FnExactBoxIsSaid : Prop := fnExactBoxIsRow.holds Try.pinned (OpenSpec.ofChange fnExactBoxIsSpec)

/-- ITS FALSE NEIGHBOUR: 'it returns false'. Refute it at one input. -/
def fnExactBoxIsWrong : ChangeSpec := { name := "fnExactBoxIs", fn := fun _ => fun
  | [d1, d2] => { results := [.lit (.bool false)], args := [d1, d2] }
  | _ => none }
def FnExactBoxIsWrongFalsely : Prop := fnExactBoxIsRow.holds Try.pinned (OpenSpec.ofChange fnExactBoxIsWrong)

/-- 'laws.FnExactBoxOk': WHATEVER THE INPUT: true; the input reads as it did. -/
def fnExactBoxOkSpec : ChangeSpec := { name := "fnExactBoxOk", fn := fun _ => fun
  | [d1, d2] => { results := [.lit (.bool true)], args := [d1, d2] }
  | _ => none }
def fnExactBoxOkRow : OpenClaim := { program := "ytlnihglcneaonaa", sum := "50d25dd63849ec0db9e3bf598fafe63b39203ac6e9bd22dd21b03d26ee451d56", func := "loop.example/pinfold/laws.FnExactBoxOk", spec := "fnExactBoxOk", unfollowed := true, recurses := true, apart := false }
def FnExactBoxOkSaid : Prop := fnExactBoxOkRow.holds Try.pinned (OpenSpec.ofChange fnExactBoxOkSpec)

/-- ITS FALSE NEIGHBOUR: 'it returns false'. Refute it at one input. -/
def fnExactBoxOkWrong : ChangeSpec := { name := "fnExactBoxOk", fn := fun _ => fun
  | [d1, d2] => { results := [.lit (.bool false)], args := [d1, d2] }
  | _ => none }
def FnExactBoxOkWrongFalsely : Prop := fnExactBoxOkRow.holds Try.pinned (OpenSpec.ofChange fnExactBoxOkWrong)

/-- 'laws.FnExactBoxBits': WHATEVER THE INPUT: true; the input reads as it did. -/
def fnExactBoxBitsSpec : ChangeSpec := { name := "fnExactBoxBits", fn := fun _ => fun
  | [d1, d2] => { results := [.lit (.bool true)], args := [d1, d2] }
  | _ => none }
def fnExactBoxBitsRow : OpenClaim := { program := "ytlnihglcneaonaa", sum := "50d25dd63849ec0db9e3bf598fafe63b39203ac6e9bd22dd21b03d26ee451d56", func := "loop.example/pinfold/laws.FnExactBoxBits", spec := "fnExactBoxBits", unfollowed := true, recurses := true, apart := false }
def FnExactBoxBitsSaid : Prop := fnExactBoxBitsRow.holds Try.pinned (OpenSpec.ofChange fnExactBoxBitsSpec)

/-- ITS FALSE NEIGHBOUR: 'it returns false'. Refute it at one input. -/
def fnExactBoxBitsWrong : ChangeSpec := { name := "fnExactBoxBits", fn := fun _ => fun
  | [d1, d2] => { results := [.lit (.bool false)], args := [d1, d2] }
  | _ => none }
def FnExactBoxBitsWrongFalsely : Prop := fnExactBoxBitsRow.holds Try.pinned (OpenSpec.ofChange fnExactBoxBitsWrong)

/-- 'laws.FnExactBoxMeet': WHATEVER THE INPUT: true; the input reads as it did. -/
def fnExactBoxMeetSpec : ChangeSpec := { name := "fnExactBoxMeet", fn := fun _ => fun
  | [d1, d2, d3] => { results := [.lit (.bool true)], args := [d1, d2, d3] }
  | _ => none }
def fnExactBoxMeetRow : OpenClaim := { program := "ytlnihglcneaonaa", sum := "50d25dd63849ec0db9e3bf598fafe63b39203ac6e9bd22dd21b03d26ee451d56", func := "loop.example/pinfold/laws.FnExactBoxMeet", spec := "fnExactBoxMeet", unfollowed := true, recurses := true, apart := false }
def FnExactBoxMeetSaid : Prop := fnExactBoxMeetRow.holds Try.pinned (OpenSpec.ofChange fnExactBoxMeetSpec)

/-- ITS FALSE NEIGHBOUR: 'it returns false'. Refute it at one input. -/
def fnExactBoxMeetWrong : ChangeSpec := { name := "fnExactBoxMeet", fn := fun _ => fun
  | [d1, d2, d3] => { results := [.lit (.bool false)], args := [d1, d2, d3] }
  | _ => none }
def FnExactBoxMeetWrongFalsely : Prop := fnExactBoxMeetRow.holds Try.pinned (OpenSpec.ofChange fnExactBoxMeetWrong)

/-- 'laws.FnExactBoxOf': WHATEVER THE INPUT: true; the input reads as it did. -/
def fnExactBoxOfSpec : ChangeSpec := { name := "fnExactBoxOf", fn := fun _ => fun
  | [d1, d2] => { results := [.lit (.bool true)], args := [d1, d2] }
  | _ => none }
def fnExactBoxOfRow : OpenClaim := { program := "ytlnihglcneaonaa", sum := "50d25dd63849ec0db9e3bf598fafe63b39203ac6e9bd22dd21b03d26ee451d56", func := "loop.example/pinfold/laws.FnExactBoxOf", spec := "fnExactBoxOf", unfollowed := true, recurses := true, apart := false }
def FnExactBoxOfSaid : Prop := fnExactBoxOfRow.holds Try.pinned (OpenSpec.ofChange fnExactBoxOfSpec)

/-- ITS FALSE NEIGHBOUR: 'it returns false'. Refute it at one input. -/
def fnExactBoxOfWrong : ChangeSpec := { name := "fnExactBoxOf", fn := fun _ => fun
  | [d1, d2] => { results := [.lit (.bool false)], args := [d1, d2] }
  | _ => none }
def FnExactBoxOfWrongFalsely : Prop := fnExactBoxOfRow.holds Try.pinned (OpenSpec.ofChange fnExactBoxOfWrong)

/- THE SECOND FORM. 'bulk': how many values and letters a reading holds, each counted each time it is reached (what is shared counts as often as it is met; a slice's spare places count too). A statement '..UptoSaid' is the law's where the arguments, and the package variables that the reading takes, are together of bulk at most 1048576: NARROWER than '..Said'. Prove '..Said' where nothing that the law and all that it calls make is longer than what came in: it says more and counts as full. Else prove '..UptoSaid'. A law counts once. -/
mutual
def uptoBulk {H : Type} : DataW H → Nat
  | .lit (.string bytes) => bytes.length + 1
  | .lit _ => 1
  | .nil => 1
  | .ptr d => uptoBulk d + 1
  | .slice elems spare => uptoBulkAll elems + uptoBulkAll spare + 1
  | .agg parts => uptoBulkAll parts + 1
  | .iface _ d => uptoBulk d + 1
  | .map entries => uptoBulkEntries entries + 1
  | .held _ => 1
def uptoBulkAll {H : Type} : List (DataW H) → Nat
  | [] => 0
  | d :: r => uptoBulk d + uptoBulkAll r
def uptoBulkEntries {H : Type} : List (Lit × DataW H) → Nat
  | [] => 0
  | x :: r => uptoBulkEntry x + uptoBulkEntries r
def uptoBulkEntry {H : Type} : Lit × DataW H → Nat
  | (.string bytes, d) => bytes.length + uptoBulk d + 1
  | (_, d) => uptoBulk d + 1
 end
def uptoSmall : (H : Type) → List (DataW H) → Bool := fun _ ds => decide (uptoBulkAll ds ≤ 1048576)
def OpenSpec.upto (s : _root_.Go.ChangeSpec) : _root_.Go.OpenSpec := { _root_.Go.OpenSpec.ofChange s with cond := some uptoSmall }

/-- 'laws.FnExactRelMeet', WHERE WHAT IT READS IS OF BULK AT MOST 1048576: true; the input reads as it did. -/
def fnExactRelMeetUptoRow : OpenClaim := { program := "ytlnihglcneaonaa", sum := "50d25dd63849ec0db9e3bf598fafe63b39203ac6e9bd22dd21b03d26ee451d56", func := "loop.example/pinfold/laws.FnExactRelMeet", spec := "fnExactRelMeet", recurses := true, apart := false, narrowed := true }
def FnExactRelMeetUptoSaid : Prop := fnExactRelMeetUptoRow.holds Try.pinned (OpenSpec.upto fnExactRelMeetSpec)

/-- 'laws.FnExactBoxIs', WHERE WHAT IT READS IS OF BULK AT MOST 1048576: true; the input reads as it did. -/
def fnExactBoxIsUptoRow : OpenClaim := { program := "ytlnihglcneaonaa", sum := "50d25dd63849ec0db9e3bf598fafe63b39203ac6e9bd22dd21b03d26ee451d56", func := "loop.example/pinfold/laws.FnExactBoxIs", spec := "fnExactBoxIs", unfollowed := true, recurses := true, apart := false, narrowed := true }
def FnExactBoxIsUptoSaid : Prop := fnExactBoxIsUptoRow.holds Try.pinned (OpenSpec.upto fnExactBoxIsSpec)

/-- 'laws.FnExactBoxOk', WHERE WHAT IT READS IS OF BULK AT MOST 1048576: true; the input reads as it did. -/
def fnExactBoxOkUptoRow : OpenClaim := { program := "ytlnihglcneaonaa", sum := "50d25dd63849ec0db9e3bf598fafe63b39203ac6e9bd22dd21b03d26ee451d56", func := "loop.example/pinfold/laws.FnExactBoxOk", spec := "fnExactBoxOk", unfollowed := true, recurses := true, apart := false, narrowed := true }
def FnExactBoxOkUptoSaid : Prop := fnExactBoxOkUptoRow.holds Try.pinned (OpenSpec.upto fnExactBoxOkSpec)

/-- 'laws.FnExactBoxBits', WHERE WHAT IT READS IS OF BULK AT MOST 1048576: true; the input reads as it did. -/
def fnExactBoxBitsUptoRow : OpenClaim := { program := "ytlnihglcneaonaa", sum := "50d25dd63849ec0db9e3bf598fafe63b39203ac6e9bd22dd21b03d26ee451d56", func := "loop.example/pinfold/laws.FnExactBoxBits", spec := "fnExactBoxBits", unfollowed := true, recurses := true, apart := false, narrowed := true }
def FnExactBoxBitsUptoSaid : Prop := fnExactBoxBitsUptoRow.holds Try.pinned (OpenSpec.upto fnExactBoxBitsSpec)

/-- 'laws.FnExactBoxMeet', WHERE WHAT IT READS IS OF BULK AT MOST 1048576: true; the input reads as it did. -/
def fnExactBoxMeetUptoRow : OpenClaim := { program := "ytlnihglcneaonaa", sum := "50d25dd63849ec0db9e3bf598fafe63b39203ac6e9bd22dd21b03d26ee451d56", func := "loop.example/pinfold/laws.FnExactBoxMeet", spec := "fnExactBoxMeet", unfollowed := true, recurses := true, apart := false, narrowed := true }
def FnExactBoxMeetUptoSaid : Prop := fnExactBoxMeetUptoRow.holds Try.pinned (OpenSpec.upto fnExactBoxMeetSpec)

/-- 'laws.FnExactBoxOf', WHERE WHAT IT READS IS OF BULK AT MOST 1048576: true; the input reads as it did. -/
def fnExactBoxOfUptoRow : OpenClaim := { program := "ytlnihglcneaonaa", sum := "50d25dd63849ec0db9e3bf598fafe63b39203ac6e9bd22dd21b03d26ee451d56", func := "loop.example/pinfold/laws.FnExactBoxOf", spec := "fnExactBoxOf", unfollowed := true, recurses := true, apart := false, narrowed := true }
def FnExactBoxOfUptoSaid : Prop := fnExactBoxOfUptoRow.holds Try.pinned (OpenSpec.upto fnExactBoxOfSpec)

end Rows
end Go.Proofs.Ytlnihglcneaonaa
