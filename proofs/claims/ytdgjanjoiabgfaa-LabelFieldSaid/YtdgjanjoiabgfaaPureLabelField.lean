/- LabelField: Mul is the product and Inverse the inverse; no condition. -/
import Derived.Test.YtdgjanjoiabgfaaQ27
import Derived.Test.YtdgjanjoiabgfaaU0
namespace Go.Proofs.Ytdgjanjoiabgfaa.Pure
open Go.RowKit Go.Proofs.Ytdgjanjoiabgfaa.Q Go.Proofs.YtdgjanjoiabgfaaW.PrintWords Go.Proofs.YtdgjanjoiabgfaaW.PrintLast Go.Proofs.YtdgjanjoiabgfaaW.PrintMore
set_option linter.unusedVariables false
set_option linter.unusedSimpArgs false
theorem LabelField : silversidelaw03_LabelField.Pure := by
  intro a0 a1 h0 h1
  obtain ⟨a, rfl, ha⟩ := nat_of_u8 h0
  obtain ⟨b, rfl, hb⟩ := nat_of_u8 h1
  refine Ev.rounds (g := fun k => silversidelaw03_LabelField.f k (a : Int) (b : Int)) ?_
  unfold silversidelaw03_LabelField.f
  have hab := Rs.mulN_bd a b
  rw [w64 (n := (a : Int)) (by omega) (by omega), w64 (n := (b : Int)) (by omega) (by omega)]
  by_cases a0 : a = 0
  · have hI : label_Inverse.f (a : Int) = some (0, 6) := by unfold label_Inverse.f; rw [if_pos (by omega)]
    refine Ev.bind' hI (Ev.bind' (MulT ha hb) (Ev.bind (refMulE ha hb) ?_))
    exact Ev.pos (w64 (by omega) (by omega)) (Ev.pos (by omega) (Ev.pos rfl (Ev.pos rfl awake_end)))
  · have hi : Rs.invN a < 256 := (Rs.pw_bd _).1
    refine Ev.bind' (InverseT ha a0) (Ev.bind' (MulT ha hb) (Ev.bind (refMulE ha hb) ?_))
    refine Ev.pos (w64 (by omega) (by omega)) (Ev.neg (by omega) (Ev.pos rfl ?_))
    rw [w64 (n := ((Rs.invN a : Nat) : Int)) (by omega) (by omega)]
    refine Ev.bind (refMulE ha hi) (Ev.pos ?_ awake_end)
    rw [Rs.mulN_inv a ha a0]; rfl
end Go.Proofs.Ytdgjanjoiabgfaa.Pure
