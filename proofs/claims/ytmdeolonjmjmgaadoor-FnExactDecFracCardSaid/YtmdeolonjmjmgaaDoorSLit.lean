/- The library's search for one byte as the literal's reading uses it, and what the rows' listed variables say of memory. No condition. -/
import Derived.Test.YtmdeolonjmjmgaaDoorRows
import Derived.Test.YtmdeolonjmjmgaaDoorShelf
import Derived.ProofKit
import Derived.LaidMore
import Derived.OpenShut
import Derived.Stop.Joined
import Derived.Stop.LaidErr
import Derived.Below
import Derived.Deep.Draws
import Derived.Lib.IndexLaws
import Derived.Laws.Strings3
import Derived.WalkKit
import Derived.Lib.Walk
import Derived.Lib.AtoiErrMem
namespace Go.Proofs.YtmdeolonjmjmgaaDoor.SLit
open Go Go.Proofs Go.ChangeShapes Go.WideShapes Go.ChangeAt Go.RowKit
/-- A fact that the walk is not to use. -/
structure At (p : Prop) : Prop where
  out : p
/-- The two errors of the library's that the reading of a number names stand in memory. -/
def Tab (w : World) : Prop := (∃ t p, w.cell? ⟨1, 0, none⟩ = some (.iface t p)) ∧ ∃ t p, w.cell? ⟨2, 0, none⟩ = some (.iface t p)
theorem Tab.below {w W : World} (h : Tab w) (hb : Below w.heap.size w W) : Tab W := by
  obtain ⟨⟨t, p, h1⟩, t', p', h2⟩ := h
  exact ⟨⟨t, p, (hb.cell (p := ⟨1, 0, none⟩) (World.block_lt_of_cell? w _ h1)).trans h1⟩, t', p', (hb.cell (p := ⟨2, 0, none⟩) (World.block_lt_of_cell? w _ h2)).trans h2⟩
theorem Tab.drewN {w : World} (h : Tab w) (m : Nat) : Tab (w.drewN m) := h
def laidL : List (String × DataW Unit) := [("math/bits.deBruijn32tab", Rows.laid_math_bits_deBruijn32tab), ("math/bits.deBruijn64tab", Rows.laid_math_bits_deBruijn64tab), ("internal/strconv.uint64pow10", Rows.laid_internal_strconv_uint64pow10), ("strconv.ErrRange", Rows.laid_strconv_ErrRange), ("strconv.ErrSyntax", Rows.laid_strconv_ErrSyntax)]
theorem gES : Tryd.prog.globalNamed "strconv.ErrSyntax" = some 1 := by kernel_rfl
theorem gER : Tryd.prog.globalNamed "strconv.ErrRange" = some 2 := by kernel_rfl
theorem tES : (Tryd.prog.globals[1]?).map (·.type) = some 54 := by kernel_rfl
theorem tER : (Tryd.prog.globals[2]?).map (·.type) = some 54 := by kernel_rfl
theorem cErr : Tryd.prog.cellsOf 92 = 1 := by kernel_rfl
theorem cStr : Tryd.prog.cellsOf 9 = 1 := by kernel_rfl
theorem star : "*" ++ "errors.errorString" = "*errors.errorString" := by decide
theorem ptrErr (u : TypeId) (h : Tryd.prog.typeName? 3 u = some "*errors.errorString") : u = 90 :=
  typeName_ptr_named (nm := "errors.errorString") (by rw [star]; kernel_rfl) (by kernel_rfl) (by decide) u (by rw [star]; exact h)
theorem door_met (os : Os) (args : Array Value) : laidMetH Tryd.prog laidL ((World.doorLaid Tryd.prog 65 os).forCall (fun _ _ => 0) ⟨#[], args, []⟩).memory :=
  laidMetH_of_parts3 (fuel := 8) (laidMet_of_run' 8 (by kernel_rfl) (by kernel_rfl)) (by kernel_rfl) (by kernel_rfl)
theorem tab_of {W : World} (h : laidMetH Tryd.prog laidL W) : Tab W := by
  rw [MakeChecks.laidMetH_plain _ _ _ (by kernel_rfl)] at h
  have h3 := h.tail.tail.tail
  obtain ⟨a0, s0, hv0, -, -, -⟩ := laid_sentinel h3 gER tER Tryd.underlying54 ptrErr Tryd.underlying90 Tryd.underlying92 rfl rfl Tryd.underlying9 cErr cStr
  obtain ⟨a1, s1, hv1, -, -, -⟩ := laid_sentinel h3.tail gES tES Tryd.underlying54 ptrErr Tryd.underlying90 Tryd.underlying92 rfl rfl Tryd.underlying9 cErr cStr
  exact ⟨⟨_, _, by have h0 := World.var?_cell gES hv1 0; simpa using h0⟩, _, _, by have h0 := World.var?_cell gER hv0 0; simpa using h0⟩
/-- A text cut at the first byte c. -/
def cutb (c : UInt8) (s : ByteArray) : ByteArray × ByteArray × Bool := if Lib.indexByte s.data.toList c = -1 then (s, ⟨#[]⟩, false) else (s.extract 0 (Lib.indexByte s.data.toList c).toNat, s.extract ((Lib.indexByte s.data.toList c).toNat + 1) s.size, true)
theorem index_cases (c : UInt8) (s : ByteArray) : Lib.indexByte s.data.toList c = -1 ∨ ∃ i : Nat, Lib.indexByte s.data.toList c = i ∧ i + 1 ≤ s.size := by
  have hge := Lib.indexByte_ge s.data.toList c
  by_cases h : Lib.indexByte s.data.toList c = -1
  · exact .inl h
  · refine .inr ⟨(Lib.indexByte s.data.toList c).toNat, by omega, ?_⟩
    have h1 : Lib.indexByte s.data.toList c = ((Lib.indexByte s.data.toList c).toNat : Int) := by omega
    obtain ⟨h2, _⟩ := Lib.indexByte_some h1
    obtain ⟨h3, _⟩ := List.getElem?_eq_some_iff.1 h2
    have h4 : s.data.toList.length = s.size := Array.length_toList
    omega
theorem indexOne (s : ByteArray) (c : UInt8) (w : World) : Calls Tryd.prog 64 #[.string s, .string ⟨#[c]⟩] w fun e w' => e = .returned (.int .i64 (Lib.indexByte s.data.toList c)) ∧ w' = w := Tryd.stringslite_Index_one s c w
set_option maxHeartbeats 4000000 in
set_option maxRecDepth 100000 in
theorem cutIn (s : ByteArray) (c : UInt8) (w : World) (hs : s.size ≤ 9223372036854775807) : Calls Tryd.prog 51 #[.string s, .string ⟨#[c]⟩] w fun e w' => e = .returned (.tuple #[.string (cutb c s).1, .string (cutb c s).2.1, .bool (cutb c s).2.2]) ∧ ∃ n, w' = w.drewN n := by
  rcases index_cases c s with hix | ⟨i, hix, hroom⟩
  · have e : cutb c s = (s, ⟨#[]⟩, false) := by unfold cutb; rw [if_pos hix]
    rw [e]
    have hI := At.mk (indexOne s c)
    rw [hix] at hI
    go_enter Tryd.func51, Tryd.ntmps51
    go_wp2_with (go_at_call 64; refine (hI.out _).mono ?_; rintro e w' ⟨rfl, rfl⟩)
    go_ret3
    exact ⟨rfl, 0, rfl⟩
  · have e : cutb c s = (s.extract 0 i, s.extract (i + 1) s.size, true) := by unfold cutb; rw [if_neg (by omega), hix]; rfl
    rw [e]
    have hI := At.mk (indexOne s c)
    rw [hix] at hI
    have c1 : (0 : Int) ≤ ↑i := by omega
    have c2 : (↑i : Int) ≤ ↑s.size := by omega
    have c3 : (0 : Int) ≤ ↑i + 1 := by omega
    have c4 : (↑i + 1 : Int) ≤ ↑s.size := by omega
    have c5 : IntKind.i64.wrap ((i : Int) + 1) = (i : Int) + 1 := by rw [IntKind.wrap_i64]; omega
    have c6 : ((i : Int) + 1).toNat = i + 1 := by omega
    have mixed : Tryd.prog.follows Departure.mixedOrders = true := by kernel_rfl
    go_enter Tryd.func51, Tryd.ntmps51
    go_wp2_with (go_at_call 64; refine (hI.out _).mono ?_; rintro e w' ⟨rfl, rfl⟩)
    go_region_o
    go_wp2
    go_ret3
    exact ⟨rfl, 1, rfl⟩
set_option maxHeartbeats 4000000 in
set_option maxRecDepth 100000 in
theorem cutAll (s : ByteArray) (c : UInt8) (w : World) (hs : s.size ≤ 9223372036854775807) : Calls Tryd.prog 36 #[.string s, .string ⟨#[c]⟩] w fun e w' => e = .returned (.tuple #[.string (cutb c s).1, .string (cutb c s).2.1, .bool (cutb c s).2.2]) ∧ ∃ n, w' = w.drewN n := by
  have hI := At.mk (fun w => cutIn s c w hs)
  generalize cutb c s = x at hI ⊢
  obtain ⟨x1, x2, x3⟩ := x
  go_enter Tryd.func36, Tryd.ntmps36
  go_wp2_with (go_at_call 51; refine (hI.out _).mono ?_; rintro e w' ⟨rfl, n, rfl⟩)
  go_ret3
  exact ⟨rfl, n, rfl⟩
theorem cutb_size (c : UInt8) (s : ByteArray) : (cutb c s).1.size ≤ s.size ∧ (cutb c s).2.1.size ≤ s.size := by
  unfold cutb
  split
  · exact ⟨Nat.le_refl _, Nat.zero_le _⟩
  · constructor
    · show (s.extract _ _).size ≤ _
      rw [ByteArray.size_extract]; omega
    · show (s.extract _ _).size ≤ _
      rw [ByteArray.size_extract]; omega
def minus (s : ByteArray) : Bool := Lib.hasPrefix s.data.toList [45]
def after (s : ByteArray) : ByteArray := ⟨(Lib.trimPrefix s.data.toList [45]).toArray⟩
theorem after_size (s : ByteArray) : (after s).size ≤ s.size := by
  have h : (after s).size = (Lib.trimPrefix s.data.toList [45]).length := by
    unfold after; simp [ByteArray.size]
  have h4 : s.data.toList.length = s.size := Array.length_toList
  rw [h]
  unfold Lib.trimPrefix
  split <;> simp <;> omega
theorem cutMinus (s : ByteArray) (w : World) : Calls Tryd.prog 39 #[.string s, .string ⟨#[45]⟩] w fun e w' => e = .returned (.tuple #[.string (after s), .bool (minus s)]) ∧ w' = w := Tryd.strings_CutPrefix s ⟨#[45]⟩ w
theorem atoiOk (s : ByteArray) (hs : s.size ≤ 9223372036854775806) (v : Int) (h : Lib.atoiAll s.data.toList = .ok v) (w : World) : Calls Tryd.prog 40 #[.string s] w fun e w' => e = .returned (.tuple #[.int .i64 v, .nilIface]) ∧ Below w.heap.size w w' :=
  (Tryd.strconv_Atoi_ok s hs v h w).mono fun e w' ⟨he, hw⟩ => ⟨he, by
    rcases hw with rfl | ⟨t, rfl⟩
    · exact Below.refl _ _
    · exact Lib.bytesWorld_below _ _ _⟩
theorem atoiNo (s : ByteArray) (hs : s.size ≤ 281474976710656) (h : ∀ v, Lib.atoiAll s.data.toList ≠ .ok v) (w : World) (hT : Tab w) : Calls Tryd.prog 40 #[.string s] w fun e w' => (∃ (z : Int) (t : TypeId) (p : Addr), e = .returned (.tuple #[.int .i64 z, .iface t (.pointer (some p))])) ∧ Below w.heap.size w w' := by
  obtain ⟨⟨t1, p1, h1⟩, t2, p2, h2⟩ := hT
  cases ha : Lib.atoiAll s.data.toList with
  | ok v => exact absurd ha (h v)
  | range => exact (Tryd.strconv_Atoi_range s hs ha _ w h2 (.inr ⟨_, _, rfl⟩)).mono fun e w' ⟨N, he, _, _, hb⟩ => ⟨⟨_, _, _, he⟩, hb⟩
  | _ => exact (Tryd.strconv_Atoi_bad s hs ⟨h, fun e => by rw [ha] at e; cases e⟩ _ w h1 (.inr ⟨_, _, rfl⟩)).mono fun e w' ⟨N, he, _, _, hb⟩ => ⟨⟨_, _, _, he⟩, hb⟩
end Go.Proofs.YtmdeolonjmjmgaaDoor.SLit
