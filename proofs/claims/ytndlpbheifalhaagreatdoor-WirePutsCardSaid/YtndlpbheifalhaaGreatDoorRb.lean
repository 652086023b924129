/- The room: bytes are laid. -/
import Derived.Test.YtndlpbheifalhaaGreatDoorRa
namespace Go.Proofs.YtndlpbheifalhaaGreatDoor.T
open Go.Proofs.YtndlpbheifalhaaGreatDoor.E
set_option maxRecDepth 100000
set_option linter.unusedVariables false
def lotF (i : Int) : Int := if Int.tmod i 2 = 0 then -7701 else -7702
def lotB (i : Int) : Int := IntKind.wrap .u8 (lotF i)
def lots (n : Nat) : List Int := (List.range n).map fun i : Nat => lotB i
theorem lots_succ (z : Nat) : lots (z + 1) = lots z ++ [lotB z] := by simp [lots, List.range_succ]
theorem lots_len (z : Nat) : (lots z).length = z := by simp [lots]
/-- How long a list is with its marks. -/
def far (l : List Int) : Nat := l.length + 600
def ct_lot (i : Int) : Ct KK := { need := True, pre := [], args := [i64 i], Y := Unit, ok := fun _ => True, ret := fun _ => i64 (lotF i), post := fun _ => [] }
theorem vc_lot (i : Int) : evFn tab0 ann0 Tryz.f66 (ct_lot i) = ( (2 : Int) ≠ (0 : Int) ∧ ite2 (decide (i.tmod (2 : Int) = (0 : Int))) (EndsAs 0 (ct_lot i) (i64 (-7701 : Int)) []) (EndsAs 0 (ct_lot i) (i64 (-7702 : Int)) [])) := by kernel_rfl
theorem lot_ok (i : Int) : CtOk Tryz.prog 66 (ct_lot i) := CtOk_of KK_ok tab0 ann0 (fn := Tryz.f66) rfl (fun _ _ => rfl) fun hn => by
  rw [vc_lot]
  refine ⟨by decide, ite2_decide (fun h => ?_) (fun h => ?_)⟩
  · exact ⟨(), [], [], trivial, ⟨⟨show (-7701 : Int) = lotF i by rw [lotF, if_pos h], trivial⟩, trivial⟩⟩
  · exact ⟨(), [], [], trivial, ⟨⟨show (-7702 : Int) = lotF i by rw [lotF, if_neg h], trivial⟩, trivial⟩⟩
end Go.Proofs.YtndlpbheifalhaaGreatDoor.T
