/- LabelEncodes: for any string and any number of check bytes Encode answers as the reference does; no condition. -/
import Derived.Test.YtdgjanjoiabgfaaQ15
import Derived.Test.YtdgjanjoiabgfaaU4
namespace Go.Proofs.Ytdgjanjoiabgfaa.Pure
open Go.RowKit Go.Proofs.Ytdgjanjoiabgfaa.Q Go.Proofs.YtdgjanjoiabgfaaW.PrintWords Go.Proofs.YtdgjanjoiabgfaaW.PrintLast Go.Proofs.YtdgjanjoiabgfaaW.PrintMore
set_option linter.unusedVariables false
set_option linter.unusedSimpArgs false
open Rs (PS GF wd)
theorem shortG (s : ByteArray) (hs : s.size ≤ 140737488351232) : silversidelaw03_short.f s = some (s.extract 0 (min s.size 300)) := by
  unfold silversidelaw03_short.f
  have e : mn (s.size : Int) 300 = ((min s.size 300 : Nat) : Int) := by unfold mn; split <;> omega
  rw [e, if_pos (by omega), if_pos (by omega), Int.toNat_natCast]
theorem short_size (s : ByteArray) : (s.extract 0 (min s.size 300)).size ≤ 300 := by rw [ByteArray.size_extract]; omega
theorem rightG (n p : Nat) (hp : p ≤ 64) : silversideref03_Right.f (n : Int) (p : Int) = some (decide (p < n ∧ n ≤ 255)) := by
  unfold silversideref03_Right.f
  rw [if_pos (by omega), if_pos (by omega)]
  by_cases h : p < n
  · rw [if_pos (by omega)]; congr 1; exact decide_eq_decide.2 (by omega)
  · rw [if_neg (by omega)]; congr 1; exact (decide_eq_false (by omega)).symm
theorem empty_toList : (⟨#[]⟩ : ByteArray).toList = [] := by rw [Go.ByteArray.toList_eq]
theorem enc_no (s : ByteArray) (p : Int) : Ev (fun k => silversidelaw03_LabelEncodes.j0 k s p ⟨#[]⟩ 2 true) true := by
  refine Ev.step (f := fun k => _) (fun k => by rw [silversidelaw03_LabelEncodes.j0]) ?_
  exact Ev.pos rfl (Ev.pos empty_toList (Ev.pos rfl awake_end))
theorem enc_yes (n p : Nat) (f : PS) (hp : p ≤ 64) (hN : n + p ≤ 255) : Ev (fun k => silversidelaw03_LabelEncodes.j0 k (strOfNums (tb n f)) (p : Int) (strOfNums (tb (n + p) (wd n p f))) 0 false) true := by
  refine Ev.step (f := fun k => _) (fun k => by rw [silversidelaw03_LabelEncodes.j0]) ?_
  exact Ev.neg (by simp) (Ev.pos rfl (Ev.bind (NumbersG n f (by omega)) (Ev.bind (refEncodeG n p f hp (by omega)) (Ev.bind (TextG _ _ (by omega)) (Ev.pos rfl awake_end)))))
theorem LabelEncodes : silversidelaw03_LabelEncodes.Pure := by
  intro s0 p hs0 _
  refine Ev.rounds (g := fun k => silversidelaw03_LabelEncodes.f k s0 p) ?_
  unfold silversidelaw03_LabelEncodes.f
  refine Ev.bind' (shortG s0 hs0) ?_
  have hs := short_size s0
  generalize s0.extract 0 (min s0.size 300) = s at hs
  by_cases h0 : p < 0
  · exact Ev.bind (EncodeBad s p (.inl h0) hs) (Ev.pos h0 (enc_no s p))
  by_cases h1 : p > 64
  · exact Ev.bind (EncodeBad s p (.inr (.inl h1)) hs) (Ev.neg h0 (Ev.pos h1 (enc_no s p)))
  obtain ⟨q, rfl⟩ := Int.eq_ofNat_of_zero_le (show 0 ≤ p by omega)
  by_cases h2 : 0 < s.size ∧ s.size + q ≤ 255
  · obtain ⟨f, hf⟩ := str_of s
    generalize s.size = n at hf h2 hs
    subst hf
    refine Ev.bind (EncodeG n q f h2.1 (by omega) h2.2) (Ev.neg h0 (Ev.neg h1 ?_))
    rw [w64 (by omega) (by omega), show (n : Int) + q = ((n + q : Nat) : Int) from by omega]
    refine Ev.bind' (rightG _ _ (by omega)) ?_
    rw [decide_eq_true (by omega)]
    exact enc_yes n q f (by omega) h2.2
  · refine Ev.bind (EncodeBad s q (.inr (.inr (by omega))) hs) (Ev.neg h0 (Ev.neg h1 ?_))
    rw [w64 (by omega) (by omega), show (s.size : Int) + q = ((s.size + q : Nat) : Int) from by omega]
    refine Ev.bind' (rightG _ _ (by omega)) ?_
    rw [decide_eq_false (by omega)]
    exact enc_no s q
end Go.Proofs.Ytdgjanjoiabgfaa.Pure
