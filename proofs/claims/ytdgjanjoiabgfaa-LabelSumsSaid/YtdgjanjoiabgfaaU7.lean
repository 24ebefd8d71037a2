/- What Syndromes and Is answer. -/
import Derived.Test.YtdgjanjoiabgfaaQ30
import Derived.Test.YtdgjanjoiabgfaaQ29
import Derived.Test.YtdgjanjoiabgfaaU
namespace Go.Proofs.Ytdgjanjoiabgfaa.Pure
open Go.RowKit Go.Proofs.Ytdgjanjoiabgfaa.Q Go.Proofs.YtdgjanjoiabgfaaW.PrintWords Go.Proofs.YtdgjanjoiabgfaaW.PrintLast Go.Proofs.YtdgjanjoiabgfaaW.PrintMore
set_option linter.unusedVariables false
set_option linter.unusedSimpArgs false
open Rs (PS GF hv)
/-! ### Syndromes and Is, as called from outside -/
theorem SyndromesG (n p : Nat) (f : PS) (hp : p ≤ 64) (h1 : p < n) (h2 : n ≤ 255) : Ev (fun k => label_Syndromes.f k (strOfNums (tb n f)) (p : Int)) (tb p (sy n f), 0) := by
  unfold label_Syndromes.f
  rw [str_size, bytes_tb]
  exact Ev.pos (by omega) (Ev.bind' (parG n p hp) (Ev.pos (decide_eq_true ⟨h1, h2⟩) (Ev.bind (synG n p f (by omega) (by omega)) (Ev.now _))))
theorem parBad (n p : Int) (h : ¬ (0 ≤ p ∧ p ≤ 64 ∧ p < n ∧ n ≤ 255)) : label_isParameters.f n p = some false := by
  unfold label_isParameters.f
  by_cases h0 : p ≥ 0
  · rw [if_pos h0]
    by_cases h1 : p ≤ 64
    · rw [if_pos h1, w64 (by omega) (by omega)]
      by_cases h2 : n ≥ p + 1
      · rw [if_pos h2]; congr 1; exact decide_eq_false (by omega)
      · rw [if_neg h2]
    · rw [if_neg h1]
  · rw [if_neg h0]
theorem SyndromesBad (s : ByteArray) (p : Int) (hs : s.size ≤ 300) (h : ¬ (0 ≤ p ∧ p ≤ 64 ∧ p < s.size ∧ (s.size : Int) ≤ 255)) : Ev (fun k => label_Syndromes.f k s p) ([], 2) := by
  unfold label_Syndromes.f
  exact Ev.pos (by omega) (Ev.bind' (parBad _ _ h) (Ev.neg (by simp) (Ev.now _)))
theorem IsG (n p : Nat) (f : PS) (hp : p ≤ 64) (h1 : p < n) (h2 : n ≤ 255) : Ev (fun k => label_Is.f k (strOfNums (tb n f)) (p : Int)) (zB p (sy n f), 0) := by
  unfold label_Is.f
  exact Ev.bind (SyndromesG n p f hp h1 h2) (Ev.pos rfl (Ev.bind (zeroG p _ (by omega)) (Ev.now _)))
theorem IsBad (s : ByteArray) (p : Int) (hs : s.size ≤ 300) (h : ¬ (0 ≤ p ∧ p ≤ 64 ∧ p < s.size ∧ (s.size : Int) ≤ 255)) : Ev (fun k => label_Is.f k s p) (false, 2) := by
  unfold label_Is.f
  exact Ev.bind (SyndromesBad s p hs h) (Ev.neg (by simp) (Ev.now _))
end Go.Proofs.Ytdgjanjoiabgfaa.Pure
