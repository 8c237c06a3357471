/- The shelf's layings of strings.Builder's WriteString, WriteByte at the seat of the Lines laws (plain text printed by plainlay.py from a scratch laying); a Builder's calls. -/
import Derived.Test.YteennbdakjjcfaaDoorLnRT
import Derived.Shelf.Strings.Builder1
set_option linter.unusedVariables false
namespace Go.Proofs.YteennbdakjjcfaaDoor
open Go Go.Shelf Go.RowKit
def lays166_ren : Go.Shelf.Ren := ⟨fun | 166 => 33 | 240 => 50 | 276 => 61 | n => n, fun | 20 => 20 | 70 => 69 | 9 => 9 | 3 => 3 | 75 => 73 | 0 => 0 | 72 => 71 | 37 => 25 | 4 => 4 | 164 => 100 | 80 => 76 | 5 => 5 | n => n, fun | n => n⟩
theorem lays166 : Go.Proofs.Lays.n166 Tryd.prog lays166_ren := {
  mixed := by kernel_rfl,
  f166 := Tryd.func33.trans (congrArg some (by kernel_rfl)),
  f240 := Tryd.func50.trans (congrArg some (by kernel_rfl)),
  f276 := Tryd.func61.trans (congrArg some (by kernel_rfl)),
  t0 := Tryd.underlying0,
  a0 := Tryd.isAgg0,
  z0 := Tryd.sizeOf0,
  v0 := Tryd.zeroValue0,
  t3 := Tryd.underlying3,
  a3 := Tryd.isAgg3,
  z3 := Tryd.sizeOf3,
  v3 := Tryd.zeroValue3,
  t4 := Tryd.underlying4,
  a4 := Tryd.isAgg4,
  z4 := Tryd.sizeOf4,
  v4 := Tryd.zeroValue4,
  t9 := Tryd.underlying9,
  a9 := Tryd.isAgg9,
  z9 := Tryd.sizeOf9,
  v9 := Tryd.zeroValue9,
  t20 := by kernel_rfl,
  a20 := fun _ => by kernel_rfl,
  z20 := fun _ => by kernel_rfl,
  v20 := fun _ => by kernel_rfl,
  t37 := Tryd.underlying25,
  a37 := Tryd.isAgg25,
  z37 := Tryd.sizeOf25,
  v37 := Tryd.zeroValue25,
  t70 := Tryd.underlying69,
  a70 := Tryd.isAgg69,
  z70 := Tryd.sizeOf69,
  v70 := Tryd.zeroValue69,
  t72 := Tryd.underlying71,
  a72 := Tryd.isAgg71,
  z72 := Tryd.sizeOf71,
  v72 := Tryd.zeroValue71,
  t75 := Tryd.underlying73,
  a75 := Tryd.isAgg73,
  z75 := Tryd.sizeOf73,
  v75 := Tryd.zeroValue73,
  t164 := Tryd.underlying100,
  a164 := Tryd.isAgg100,
  z164 := Tryd.sizeOf100,
  v164 := Tryd.zeroValue100 }
def lays167_ren : Go.Shelf.Ren := ⟨fun | 167 => 60 | 240 => 50 | 276 => 61 | n => n, fun | 20 => 20 | 70 => 69 | 5 => 5 | 75 => 73 | 0 => 0 | 72 => 71 | 37 => 25 | 4 => 4 | 164 => 100 | 80 => 76 | 9 => 9 | n => n, fun | n => n⟩
theorem lays167 : Go.Proofs.Lays.n167 Tryd.prog lays167_ren := {
  mixed := by kernel_rfl,
  f167 := Tryd.func60.trans (congrArg some (by kernel_rfl)),
  f240 := Tryd.func50.trans (congrArg some (by kernel_rfl)),
  f276 := Tryd.func61.trans (congrArg some (by kernel_rfl)),
  t0 := Tryd.underlying0,
  a0 := Tryd.isAgg0,
  z0 := Tryd.sizeOf0,
  v0 := Tryd.zeroValue0,
  t4 := Tryd.underlying4,
  a4 := Tryd.isAgg4,
  z4 := Tryd.sizeOf4,
  v4 := Tryd.zeroValue4,
  t5 := Tryd.underlying5,
  a5 := Tryd.isAgg5,
  z5 := Tryd.sizeOf5,
  v5 := Tryd.zeroValue5,
  t9 := Tryd.underlying9,
  a9 := Tryd.isAgg9,
  z9 := Tryd.sizeOf9,
  v9 := Tryd.zeroValue9,
  t20 := by kernel_rfl,
  a20 := fun _ => by kernel_rfl,
  z20 := fun _ => by kernel_rfl,
  v20 := fun _ => by kernel_rfl,
  t37 := Tryd.underlying25,
  a37 := Tryd.isAgg25,
  z37 := Tryd.sizeOf25,
  v37 := Tryd.zeroValue25,
  t70 := Tryd.underlying69,
  a70 := Tryd.isAgg69,
  z70 := Tryd.sizeOf69,
  v70 := Tryd.zeroValue69,
  t72 := Tryd.underlying71,
  a72 := Tryd.isAgg71,
  z72 := Tryd.sizeOf71,
  v72 := Tryd.zeroValue71,
  t75 := Tryd.underlying73,
  a75 := Tryd.isAgg73,
  z75 := Tryd.sizeOf73,
  v75 := Tryd.zeroValue73,
  t164 := Tryd.underlying100,
  a164 := Tryd.isAgg100,
  z164 := Tryd.sizeOf100,
  v164 := Tryd.zeroValue100 }
theorem xb (ρ : Go.Shelf.Ren) (h5 : ρ.t 5 = 5) (h72 : ρ.t 72 = 71) : Builder.Extra Tryd.prog ρ := by
  refine { sizeBuilder := ?_, liesBuilder := ?_, t5 := ?_, a5 := ?_, z5 := ?_, v5 := ?_, infoByte := ?_, cellsByte := ?_, sizeByte := ?_, neB5 := ?_ }
  all_goals (try rw [h5]); (try rw [h72])
  · kernel_rfl
  · kernel_rfl
  · exact Tryd.underlying5
  · exact Tryd.isAgg5
  · exact Tryd.sizeOf5
  · exact Tryd.zeroValue5
  · kernel_rfl
  · kernel_rfl
  · kernel_rfl
  · decide
/-- a Builder that holds l -/
def Bld (w : World) (B b : Nat) (l : List UInt8) : Prop := Lib.IsBuilder 71 5 B b (Lib.byteCells l) w
theorem bld_fresh (w : World) : Bld (w.alloc (.cells #[.pointer none, .slice none 0 0] 71)) w.heap.size w.heap.size [] := Lib.fresh_isBuilder 71 5 w
theorem cells_app (l m : List UInt8) : Lib.byteCells l ++ Lib.byteCells m = Lib.byteCells (l ++ m) := by
  unfold Lib.byteCells; simp
theorem bld_byte (B b : Nat) (l : List UInt8) (c : UInt8) (w : World) (h : Bld w B b l) (hl : l.length ≤ 1000000) (hB : B ≤ w.heap.size) :
    Calls Tryd.prog 60 #[.pointer (some ⟨b, 0, none⟩), .int .u8 (c.toNat : Int)] w fun e w' => e = .returned .nilIface ∧ Bld w' B b (l ++ [c]) ∧ Below B w w' := by
  have k := Any.Builder_WriteByte lays167 (xb lays167_ren rfl rfl) B b (Lib.byteCells l) (c.toNat : Int) w h (by rw [Lib.byteCells_length]; omega) hB
  refine Calls.mono k ?_
  rintro e w' ⟨rfl, h1, h2⟩
  refine ⟨rfl, Or.inr ?_, h2⟩
  have e1 : Lib.byteCells l ++ [Value.int .u8 (c.toNat : Int)] = Lib.byteCells (l ++ [c]) := by rw [← cells_app]; rfl
  rw [← e1]; exact h1
theorem bld_str (B b : Nat) (l s : List UInt8) (w : World) (h : Bld w B b l) (hl : l.length + s.length ≤ 1000000) (hB : B ≤ w.heap.size) :
    Calls Tryd.prog 33 #[.pointer (some ⟨b, 0, none⟩), sV s] w fun e w' => (∃ v, e = .returned v) ∧ Bld w' B b (l ++ s) ∧ Below B w w' := by
  have k := Any.Builder_WriteString lays166 (xb lays166_ren rfl rfl) B b (Lib.byteCells l) ⟨s.toArray⟩ w h (by rw [Lib.byteCells_length]; show l.length + s.length ≤ _; omega) hB
  refine Calls.mono k ?_
  rintro e w' ⟨rfl, h1, h2⟩
  refine ⟨⟨_, rfl⟩, Or.inr ?_, h2⟩
  have e1 : Lib.byteCells l ++ Lib.strCells ⟨s.toArray⟩ = Lib.byteCells (l ++ s) := by rw [← cells_app]; rfl
  rw [← e1]; exact h1
theorem bld_done (B b : Nat) (l : List UInt8) (w : World) (h : Bld w B b l) (hB : B ≤ w.heap.size) :
    Calls Tryd.prog 34 #[.pointer (some ⟨b, 0, none⟩)] w fun e w' => e = .returned (sV l) ∧ Below B w w' :=
  Any.Builder_String_any lays169 (xb lays169_ren rfl rfl) B b l w h hB
end Go.Proofs.YteennbdakjjcfaaDoor
