/- What the reference's syndromes come to. -/
import Derived.Test.YtdgjanjoiabgfaaQ20
import Derived.Test.YtdgjanjoiabgfaaQ22
import Derived.Test.YtdgjanjoiabgfaaQ21
import Derived.Test.YtdgjanjoiabgfaaU3
namespace Go.Proofs.Ytdgjanjoiabgfaa.Pure
open Go.RowKit Go.Proofs.Ytdgjanjoiabgfaa.Q Go.Proofs.YtdgjanjoiabgfaaW.PrintWords Go.Proofs.YtdgjanjoiabgfaaW.PrintLast Go.Proofs.YtdgjanjoiabgfaaW.PrintMore
set_option linter.unusedVariables false
set_option linter.unusedSimpArgs false
open Rs (PS GF hv gen nx en cut wd cv st sh tl loc als cnt)
open Rs.GF (al)
/-! ### the reference's syndromes -/
theorem at_l0 (n : Nat) (f : PS) (x : GF) (hn : n ≤ 100000) (m : Nat) : ∀ (i : Nat), i + m = n → Ev (fun k => silversideref03_At.l0 k (tb n f) ((x.v : Nat) : Int) (((hv i f x).v : Nat) : Int) (i : Int)) (((hv n f x).v : Nat) : Int) := by
  induction m with
  | zero =>
    intro i hi
    obtain rfl : i = n := by omega
    refine Ev.step (f := fun k => _) (fun k => by rw [silversideref03_At.l0]) ?_
    exact Ev.neg (by rw [tb_length]; omega) (Ev.now _)
  | succ m ih =>
    intro i hi
    refine Ev.step (f := fun k => _) (fun k => by rw [silversideref03_At.l0]) ?_
    refine Ev.pos (by rw [tb_length]; omega) (Ev.bind (refMulG _ _) (Ev.pos (by omega) ?_))
    rw [tb_rd n f i (by omega), xor64G, ← Rs.hv_horner, w64 (by omega) (by omega)]
    exact ih (i + 1) (by omega)
theorem atG (n : Nat) (f : PS) (x : GF) (hn : n ≤ 100000) : Ev (fun k => silversideref03_At.f k (tb n f) ((x.v : Nat) : Int)) (((hv n f x).v : Nat) : Int) := by
  unfold silversideref03_At.f; exact at_l0 n f x hn n 0 (by omega)
theorem rsyn_l0 (n p : Nat) (f : PS) (hp : p ≤ 1000) (hn : n ≤ 100000) (m : Nat) : ∀ (i : Nat), i + m = p → Ev (fun k => silversideref03_Syndromes.l0 k (tb n f) (p : Int) (tb i (sy n f)) (i : Int)) (tb p (sy n f)) := by
  induction m with
  | zero =>
    intro i hi
    obtain rfl : i = p := by omega
    refine Ev.step (f := fun k => _) (fun k => by rw [silversideref03_Syndromes.l0]) ?_
    exact Ev.neg (by omega) (Ev.now _)
  | succ m ih =>
    intro i hi
    refine Ev.step (f := fun k => _) (fun k => by rw [silversideref03_Syndromes.l0]) ?_
    refine Ev.pos (by omega) (Ev.bind (pow2G i (by omega)) (Ev.bind (atG n f (al i) hn) (Ev.pos (by rw [tb_length]; omega) ?_)))
    rw [w64 (by omega) (by omega), show hv n f (al i) = sy n f i from rfl, tb_snoc]
    exact ih (i + 1) (by omega)
theorem refSynG (n p : Nat) (f : PS) (hp : p ≤ 1000) (hn : n ≤ 100000) : Ev (fun k => silversideref03_Syndromes.f k (tb n f) (p : Int)) (tb p (sy n f)) := by
  unfold silversideref03_Syndromes.f; exact rsyn_l0 n p f hp hn p 0 (by omega)
theorem ris_l0 (n : Nat) (f : PS) (hn : n ≤ 100000) (m : Nat) : ∀ i, i + m = n → (∀ j, j < i → f j = 0) → Ev (fun k => silversideref03_Is.l0 k (n : Int) (tb n f) (i : Int)) (zB n f) := by
  induction m with
  | zero =>
    intro i hi h
    obtain rfl : i = n := by omega
    refine Ev.step (f := fun k => _) (fun k => by rw [silversideref03_Is.l0]) ?_
    rw [(zB_iff i f).2 h]
    exact Ev.neg (by omega) (Ev.now _)
  | succ m ih =>
    intro i hi h
    refine Ev.step (f := fun k => _) (fun k => by rw [silversideref03_Is.l0]) ?_
    refine Ev.pos (by omega) (Ev.pos (by omega) (Ev.pos (by rw [tb_length]; omega) ?_))
    rw [tb_rd n f i (by omega)]
    by_cases h0 : f i = 0
    · refine Ev.pos ((v0 _).2 h0) ?_
      rw [w64 (by omega) (by omega)]
      exact ih (i + 1) (by omega) (fun j hj => by
        by_cases e : j = i
        · rw [e]; exact h0
        · exact h j (by omega))
    · rw [zB_false (show i < n by omega) h0]
      exact Ev.neg (fun e => h0 ((v0 _).1 e)) (Ev.now _)
theorem refIsG (n p : Nat) (f : PS) (hp : p ≤ 1000) (hn : n ≤ 100000) : Ev (fun k => silversideref03_Is.f k (tb n f) (p : Int)) (zB p (sy n f)) := by
  unfold silversideref03_Is.f
  exact Ev.bind (refSynG n p f hp hn) (ris_l0 p _ (by omega) p 0 (by omega) (fun j hj => by omega))
end Go.Proofs.Ytdgjanjoiabgfaa.Pure
