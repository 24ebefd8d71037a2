/- LabelWords: Is and Syndromes answer as the reference does; no condition. -/
import Derived.Test.YtdgjanjoiabgfaaQ31
import Derived.Test.YtdgjanjoiabgfaaQ1
import Derived.Test.YtdgjanjoiabgfaaQ3
import Derived.Test.YtdgjanjoiabgfaaU6
import Derived.Test.YtdgjanjoiabgfaaU7
namespace Go.Proofs.Ytdgjanjoiabgfaa.Pure
open Go.RowKit Go.Proofs.Ytdgjanjoiabgfaa.Q Go.Proofs.YtdgjanjoiabgfaaW.PrintWords Go.Proofs.YtdgjanjoiabgfaaW.PrintLast Go.Proofs.YtdgjanjoiabgfaaW.PrintMore
set_option linter.unusedVariables false
set_option linter.unusedSimpArgs false
theorem shortG (s : ByteArray) (hs : s.size ≤ 140737488351232) : silversidelaw03_short.f s = some (s.extract 0 (min s.size 300)) := by
  unfold silversidelaw03_short.f
  have e : mn (s.size : Int) 300 = ((min s.size 300 : Nat) : Int) := by unfold mn; split <;> omega
  rw [e, if_pos (by omega), if_pos (by omega), Int.toNat_natCast]
theorem short_size (s : ByteArray) : (s.extract 0 (min s.size 300)).size ≤ 300 := by rw [ByteArray.size_extract]; omega
theorem rightG (n p : Int) : silversideref03_Right.f n p = some (decide (0 ≤ p ∧ p ≤ 64 ∧ p < n ∧ n ≤ 255)) := by
  unfold silversideref03_Right.f
  by_cases h0 : p ≥ 0
  · rw [if_pos h0]
    by_cases h1 : p ≤ 64
    · rw [if_pos h1]
      by_cases h : p < n
      · rw [if_pos (by omega)]; congr 1; exact decide_eq_decide.2 (by omega)
      · rw [if_neg (by omega)]; congr 1; exact (decide_eq_false (by omega)).symm
    · rw [if_neg h1]; congr 1; exact (decide_eq_false (by omega)).symm
  · rw [if_neg h0]; congr 1; exact (decide_eq_false (by omega)).symm
open Rs (PS GF hv)
theorem words_l0 (p : Nat) (g : PS) (hp : p ≤ 1000) (m : Nat) : ∀ i, i + m = p → Ev (fun k => silversidelaw03_LabelWords.l0 k (tb p g) (tb p g) (i : Int)) true := by
  induction m with
  | zero =>
    intro i hi
    refine Ev.step (f := fun k => _) (fun k => by rw [silversidelaw03_LabelWords.l0]) ?_
    exact Ev.neg (by rw [tb_length]; omega) awake_end
  | succ m ih =>
    intro i hi
    refine Ev.step (f := fun k => _) (fun k => by rw [silversidelaw03_LabelWords.l0]) ?_
    refine Ev.pos (by rw [tb_length]; omega) (Ev.pos (by omega) (Ev.pos (by rw [tb_length]; omega) (Ev.pos ?_ ?_)))
    · rw [tb_rd p g i (by omega), wv]
    · rw [w64 (by omega) (by omega)]; exact ih (i + 1) (by omega)
theorem LabelWords : silversidelaw03_LabelWords.Pure := by
  intro s0 p hs0 _
  refine Ev.rounds (g := fun k => silversidelaw03_LabelWords.f k s0 p) ?_
  unfold silversidelaw03_LabelWords.f
  refine Ev.bind' (shortG s0 hs0) ?_
  have hs := short_size s0
  generalize s0.extract 0 (min s0.size 300) = s at hs
  by_cases h : 0 ≤ p ∧ p ≤ 64 ∧ p < s.size ∧ (s.size : Int) ≤ 255
  · obtain ⟨q, rfl⟩ := Int.eq_ofNat_of_zero_le h.1
    obtain ⟨f, hf⟩ := str_of s
    generalize s.size = n at hf h hs
    subst hf
    refine Ev.bind (IsG n q f (by omega) (by omega) (by omega)) (Ev.bind (SyndromesG n q f (by omega) (by omega) (by omega)) (Ev.bind' (rightG _ _) ?_))
    refine Ev.pos (decide_eq_true h) (Ev.bind (NumbersG n f (by omega)) (Ev.bind (refSynG n q f (by omega) (by omega)) (Ev.pos rfl (Ev.pos rfl (Ev.pos rfl (Ev.bind (refIsG n q f (by omega) (by omega)) ?_))))))
    refine Ev.step (f := fun k => _) (fun k => by rw [silversidelaw03_LabelWords.j0]) ?_
    exact Ev.neg (by simp) (words_l0 q _ (by omega) q 0 (by omega))
  · refine Ev.bind (IsBad s p hs h) (Ev.bind (SyndromesBad s p hs h) (Ev.bind' (rightG _ _) ?_))
    exact Ev.neg (by simp [decide_eq_false h]) (Ev.neg (by simp) (Ev.pos rfl (Ev.pos rfl (Ev.pos rfl awake_end))))
end Go.Proofs.Ytdgjanjoiabgfaa.Pure
