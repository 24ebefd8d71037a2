/- LabelRing: the laws of the field; no condition. -/
import Derived.Test.YtdgjanjoiabgfaaQ28
import Derived.Test.YtdgjanjoiabgfaaU0
namespace Go.Proofs.Ytdgjanjoiabgfaa.Pure
open Go.RowKit Go.Proofs.Ytdgjanjoiabgfaa.Q Go.Proofs.YtdgjanjoiabgfaaW.PrintWords Go.Proofs.YtdgjanjoiabgfaaW.PrintLast Go.Proofs.YtdgjanjoiabgfaaW.PrintMore
set_option linter.unusedVariables false
set_option linter.unusedSimpArgs false
theorem LabelRing : silversidelaw03_LabelRing.Pure := by
  intro a0 a1 a2 h0 h1 h2
  obtain ⟨a, rfl, ha⟩ := nat_of_u8 h0
  obtain ⟨b, rfl, hb⟩ := nat_of_u8 h1
  obtain ⟨c, rfl, hc⟩ := nat_of_u8 h2
  refine Ev.rounds (g := fun k => silversidelaw03_LabelRing.f k (a : Int) (b : Int) (c : Int)) ?_
  unfold silversidelaw03_LabelRing.f
  have bd := Rs.mulN_bd
  have hbc : b ^^^ c < 256 := Nat.xor_lt_two_pow (n := 8) hb hc
  rw [Hand.xor8 b c hb hc]
  refine Ev.bind' (MulT ha hb) (Ev.bind' (MulT hb ha) (Ev.pos (by rw [Rs.mulN_comm]) ?_))
  refine Ev.bind' (MulT hb hc) (Ev.bind' (MulT ha (bd b c)) (Ev.bind' (MulT ha hb) (Ev.bind' (MulT (bd a b) hc) (Ev.pos (by rw [Rs.mulN_assoc a b c ha hb hc]) ?_))))
  refine Ev.bind' (MulT ha hbc) (Ev.bind' (MulT ha hb) (Ev.bind' (MulT ha hc) (Ev.pos (by rw [Hand.xor8 _ _ (bd a b) (bd a c), Rs.mulN_xor a b c ha hb hc]) ?_)))
  refine Ev.bind' (a := (a : Int)) (by rw [show (1 : Int) = ((1 : Nat) : Int) from rfl, MulT ha (by omega), Rs.mulN_one a ha]) (Ev.pos rfl ?_)
  refine Ev.bind' (a := 0) (by rw [show (0 : Int) = ((0 : Nat) : Int) from rfl, MulT ha (by omega), Rs.mulN_zero]) ?_
  refine Ev.step (f := fun k => _) (fun k => by rw [silversidelaw03_LabelRing.j0]) ?_
  refine Ev.neg (by simp) ?_
  by_cases b0 : b = 0
  · exact Ev.pos (by omega) awake_end
  · have hi : Rs.invN b < 256 := (Rs.pw_bd _).1
    refine Ev.neg (by omega) (Ev.bind' (InverseT hb b0) (Ev.pos rfl (Ev.bind' (MulT ha hb) (Ev.bind' (MulT (bd a b) hi) (Ev.pos ?_ awake_end)))))
    rw [Rs.mulN_assoc a b _ ha hb hi, Rs.mulN_inv b hb b0, Rs.mulN_one a ha]
end Go.Proofs.Ytdgjanjoiabgfaa.Pure
