/- wakes, worked out. -/
import Derived.Test.YtmldcbpkphigeaaGreatDoorKa
namespace Go.Proofs.YtmldcbpkphigeaaGreatDoor
open Go Go.Am
noncomputable def cxW : Cx := { ty := tyK, fns := fnK, plain := plK, scal := fun _ => none, ext := extK, orc := fun _ _ _ => none, apart := fun _ => false }
theorem wakesK : allTrue (callAt cxW 11 30 [] ⟨.leaf, 8, 8⟩) = true := by kernel_rfl
end Go.Proofs.YtmldcbpkphigeaaGreatDoor
