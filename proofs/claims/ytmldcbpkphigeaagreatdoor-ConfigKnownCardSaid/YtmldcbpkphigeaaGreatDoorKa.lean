/- The small machine's tables for this program, and their checks. -/
import Derived.Test.YtmldcbpkphigeaaGreatDoorRows
import Derived.Test.YtmldcbpkphigeaaGreatDoorA7
import Derived.KernelRfl
namespace Go.Proofs.YtmldcbpkphigeaaGreatDoor
open Go Go.Am
def plainK : List (TypeId × List Sc) := [(54, [.i, .i, .i, .i, .i, .i, .i, .i, .i, .i, .i, .i, .i, .i, .i, .i, .i, .i, .i, .i, .i, .i, .i, .i, .i, .i, .s, .i, .s, .i, .i, .i, .i, .i, .b, .i, .i]), (43, [.i, .i, .s, .i, .s, .i, .i, .i, .i, .i, .b]), (37, [.i, .i, .i, .i]), (24, [.i, .i, .i, .i, .i, .i, .i, .i, .i, .i, .i, .i, .i, .i, .i, .i]), (45, [.i, .i, .i, .i, .i, .i, .i, .i, .i, .i, .i, .i, .i, .i, .i, .i, .i]), (47, [.i, .i, .i, .i, .i]), (26, [.i, .i, .i, .i, .i, .i, .i, .i, .i, .i, .i, .i, .i, .i, .i, .i, .i])]
def extK (f : FuncId) : Option Ext := bif f.beq 183 then some .countStr else bif f.beq 194 then some .same else bif f.beq 195 then some (.makeNoZero 5) else bif f.beq 223 then some .indexByteStr else none
noncomputable def tyK : Tr TypeInfo := Tr.of Tryz.prog.types.toList
noncomputable def fnK : Tr Func := Tr.of Tryz.prog.funcs.toList
noncomputable def plK : Tr (List Sc) := plainOf plainK .leaf
theorem fieldsK : fieldsOk Tryz.prog = true := by kernel_rfl
theorem plainsK : plainK.all (plainB Tryz.prog) = true := by kernel_rfl
theorem codesK : Tryz.prog.funcs.toList.all (fnOk 8) = true := by kernel_rfl
theorem extK183 : ExtOk Tryz.prog 183 .countStr :=
  ⟨Tryz.f183, _, Tryz.func183, by kernel_rfl, by kernel_rfl, by kernel_rfl, (show Extern.find Tryz.f183 = some Extern.BytealgCount.count by kernel_rfl), rfl⟩
theorem extK194 : ExtOk Tryz.prog 194 .same :=
  ⟨Tryz.f194, _, Tryz.func194, by kernel_rfl, by kernel_rfl, by kernel_rfl, (show Extern.find Tryz.f194 = some Extern.AbiNoEscape.same by kernel_rfl), rfl⟩
theorem extK195 : ExtOk Tryz.prog 195 (.makeNoZero 5) := by
  obtain ⟨i, h1, h2⟩ := Option.map_eq_some_iff.1 (show (Tryz.prog.info? 5).map (fun i => (i.size, i.bytes)) = some (1, 1) by kernel_rfl)
  simp only [Prod.mk.injEq] at h2
  exact ⟨Tryz.f195, _, Tryz.func195, by kernel_rfl, by kernel_rfl, by kernel_rfl, (show Extern.find Tryz.f195 = some (Extern.BytealgMakeNoZero.makeNoZero Tryz.f195.params Tryz.f195.resultTypes) by kernel_rfl), rfl, 134, i, by kernel_rfl, by kernel_rfl, h1, h2.1, h2.2⟩
theorem extK223 : ExtOk Tryz.prog 223 .indexByteStr :=
  ⟨Tryz.f223, _, Tryz.func223, by kernel_rfl, by kernel_rfl, by kernel_rfl, (show Extern.find Tryz.f223 = some Extern.BytealgIndexByte.indexByte by kernel_rfl), rfl⟩
theorem extK_ok : ∀ f x, extK f = some x → ExtOk Tryz.prog f x := by
  intro f x h
  unfold extK at h
  cases h183 : f.beq 183 with
  | true => rw [h183] at h; cases h; have := Nat.eq_of_beq_eq_true h183; subst this; exact extK183
  | false =>
  rw [h183] at h; simp only [cond_false] at h
  cases h194 : f.beq 194 with
  | true => rw [h194] at h; cases h; have := Nat.eq_of_beq_eq_true h194; subst this; exact extK194
  | false =>
  rw [h194] at h; simp only [cond_false] at h
  cases h195 : f.beq 195 with
  | true => rw [h195] at h; cases h; have := Nat.eq_of_beq_eq_true h195; subst this; exact extK195
  | false =>
  rw [h195] at h; simp only [cond_false] at h
  cases h223 : f.beq 223 with
  | true => rw [h223] at h; cases h; have := Nat.eq_of_beq_eq_true h223; subst this; exact extK223
  | false =>
  rw [h223] at h; simp only [cond_false] at h
  cases h
end Go.Proofs.YtmldcbpkphigeaaGreatDoor
