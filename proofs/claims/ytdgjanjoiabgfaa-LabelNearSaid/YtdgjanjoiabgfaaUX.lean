/- What the reference's powers, products, numbers and syndromes come to. -/
import Derived.Test.YtdgjanjoiabgfaaQ20
import Derived.Test.YtdgjanjoiabgfaaQ22
import Derived.Test.YtdgjanjoiabgfaaQ14
import Derived.Test.YtdgjanjoiabgfaaQ12
import Derived.Test.YtdgjanjoiabgfaaQ21
import Derived.Test.YtdgjanjoiabgfaaQ11
import Derived.Test.YtdgjanjoiabgfaaU
namespace Go.Proofs.Ytdgjanjoiabgfaa.Pure
open Go.RowKit Go.Proofs.Ytdgjanjoiabgfaa.Q Go.Proofs.YtdgjanjoiabgfaaW.PrintWords Go.Proofs.YtdgjanjoiabgfaaW.PrintLast Go.Proofs.YtdgjanjoiabgfaaW.PrintMore
set_option linter.unusedVariables false
set_option linter.unusedSimpArgs false
open Rs (PS GF hv gen gen_zero gen_deg nx en cut wd cv cv_congr cv_comm cv_zero_left cv_add_left cv_smul_left st sh tl loc als cnt)
open Rs.GF (al)
/-! ### the reference: powers, products, numbers, texts -/
theorem pow_sq (a : GF) (m : Nat) : Rs.GF.pow (a * a) m = Rs.GF.pow a (2 * m) := by
  induction m with
  | zero => rfl
  | succ m ih => rw [Rs.pow_succ, ih, show 2 * (m + 1) = 2 * m + 1 + 1 from by omega, Rs.pow_succ, Rs.pow_succ, Rs.GF.mul_assoc]
theorem pow_l0 (n : Nat) : n < 100000 → ∀ a out : GF, Ev (fun k => silversideref03_Pow.l0 k ((a.v : Nat) : Int) (n : Int) ((out.v : Nat) : Int)) (((out * Rs.GF.pow a n).v : Nat) : Int) := by
  induction n using Nat.strongRecOn with
  | ind n ih =>
    intro hn a out
    refine Ev.step (f := fun k => _) (fun k => by rw [silversideref03_Pow.l0]) ?_
    by_cases n0 : n = 0
    · subst n0
      refine Ev.neg (by omega) ?_
      rw [show Rs.GF.pow a 0 = 1 from rfl, Rs.GF.mul_one]; exact Ev.now _
    · refine Ev.pos (by omega) ?_
      rw [half_step (x := n) (by omega), odd_step]
      have e := ih (n / 2) (by omega) (by omega) (a * a)
      simp only [pow_sq] at e
      rcases (show n % 2 = 0 ∨ n % 2 = 1 by omega) with h | h
      · rw [h]
        refine Ev.neg (by omega) (Ev.bind (refMulG a a) ?_)
        rw [show Rs.GF.pow a n = Rs.GF.pow a (2 * (n / 2)) from by rw [show 2 * (n / 2) = n from by omega]]
        exact e out
      · rw [h]
        refine Ev.pos (by omega) (Ev.bind (refMulG out a) (Ev.bind (refMulG a a) ?_))
        rw [show out * Rs.GF.pow a n = out * a * Rs.GF.pow a (2 * (n / 2)) from by rw [Rs.GF.mul_assoc, ← Rs.pow_succ, show 2 * (n / 2) + 1 = n from by omega]]
        exact e (out * a)
theorem powG (a : GF) (n : Nat) (h : n < 100000) : Ev (fun k => silversideref03_Pow.f k ((a.v : Nat) : Int) (n : Int)) (((Rs.GF.pow a n).v : Nat) : Int) := by
  unfold silversideref03_Pow.f
  have := pow_l0 n h a 1
  rw [Rs.GF.one_mul] at this
  exact this
theorem pow2G (n : Nat) (h : n < 100000) : Ev (fun k => silversideref03_Pow.f k 2 (n : Int)) (((al n).v : Nat) : Int) := by
  have := powG (al 1) n h
  rw [Rs.pow_al, Nat.one_mul] at this
  exact this
theorem times_l1 (a b N i : Nat) (A B : PS) (r : List Int) (hi : i < a) (hN : N + 1 = a + b) (hN' : N ≤ 10000) (m : Nat) : ∀ (q : Nat) (out : PS), q + m = b →
    Ev (fun k => silversideref03_Times.l0 k (tb a A) (tb b B) (tb N (fun j => out j + (if i + q ≤ j then A i * cut b B (j - i) else 0))) ((i + 1 : Nat) : Int)) r →
    Ev (fun k => silversideref03_Times.l1 k (tb a A) (tb b B) (tb N out) (i : Int) (q : Int)) r := by
  induction m with
  | zero =>
    intro q out hq h
    refine Ev.step (f := fun k => _) (fun k => by rw [silversideref03_Times.l1]) ?_
    refine Ev.neg (by rw [tb_length]; omega) ?_
    rw [w64 (by omega) (by omega), show (i : Int) + 1 = ((i + 1 : Nat) : Int) from by omega]
    rw [tb_congr (n := N) (f := fun j => out j + (if i + q ≤ j then A i * cut b B (j - i) else 0)) (g := out) (fun j _ => by
      by_cases h : i + q ≤ j
      · rw [if_pos h]; unfold cut; rw [if_neg (by omega), Rs.GF.mul_zero, Rs.GF.add_zero]
      · rw [if_neg h, Rs.GF.add_zero])] at h
    exact h
  | succ m ih =>
    intro q out hq h
    refine Ev.step (f := fun k => _) (fun k => by rw [silversideref03_Times.l1]) ?_
    rw [w64 (n := (i : Int) + q) (by omega) (by omega), w64 (n := (q : Int) + 1) (by omega) (by omega)]
    refine Ev.pos (by rw [tb_length]; omega) (Ev.pos (by omega) (Ev.pos (by rw [tb_length]; omega) (Ev.pos (by omega) (Ev.pos (by rw [tb_length]; omega) (Ev.pos (by omega) ?_)))))
    rw [tb_rd a A i hi, tb_rd b B q (by omega), show (i : Int) + q = ((i + q : Nat) : Int) from by omega, show (q : Int) + 1 = ((q + 1 : Nat) : Int) from by omega, tb_rd N out (i + q) (by omega), Int.toNat_natCast]
    refine Ev.bind (refMulG (A i) (B q)) ?_
    rw [xor64G, tb_set]
    refine ih (q + 1) _ (by omega) ?_
    rw [tb_congr (n := N) (f := fun j => (if j = i + q then out (i + q) + A i * B q else out j) + (if i + (q + 1) ≤ j then A i * cut b B (j - i) else 0)) (g := fun j => out j + (if i + q ≤ j then A i * cut b B (j - i) else 0)) (fun j _ => by
      by_cases e : j = i + q
      · subst e
        rw [if_pos rfl, if_neg (by omega), if_pos (Nat.le_refl _), Rs.GF.add_zero, Nat.add_sub_cancel_left]
        unfold cut; rw [if_pos (by omega)]
      · rw [if_neg e]
        by_cases h' : i + q ≤ j
        · rw [if_pos h', if_pos (by omega)]
        · rw [if_neg h', if_neg (by omega)])]
    exact h
theorem times_l0 (a b N : Nat) (A B : PS) (hN : N + 1 = a + b) (hN' : N ≤ 10000) (ha : a ≤ 10000) (m : Nat) : ∀ i, i + m = a →
    Ev (fun k => silversideref03_Times.l0 k (tb a A) (tb b B) (tb N (fun j => cv j (cut i A) (cut b B))) (i : Int)) (tb N (fun j => cv j (cut a A) (cut b B))) := by
  induction m with
  | zero =>
    intro i hi
    obtain rfl : i = a := by omega
    refine Ev.step (f := fun k => _) (fun k => by rw [silversideref03_Times.l0]) ?_
    exact Ev.neg (by rw [tb_length]; omega) (Ev.now _)
  | succ m ih =>
    intro i hi
    refine Ev.step (f := fun k => _) (fun k => by rw [silversideref03_Times.l0]) ?_
    refine Ev.pos (by rw [tb_length]; omega) ?_
    refine times_l1 a b N i A B _ (by omega) hN hN' b 0 _ (by omega) ?_
    have e := ih (i + 1) (by omega)
    rw [tb_congr (n := N) (f := fun j => cv j (cut (i + 1) A) (cut b B)) (g := fun j => cv j (cut i A) (cut b B) + (if i + 0 ≤ j then A i * cut b B (j - i) else 0)) (fun j _ => Rs.cv_cut i j A (cut b B))] at e
    exact e
theorem refTimesG (a b N : Nat) (A B : PS) (hN : N + 1 = a + b) (hN' : N ≤ 10000) (ha : a ≤ 10000) (hb : b ≤ 10000) : Ev (fun k => silversideref03_Times.f k (tb a A) (tb b B)) (tb N (fun j => cv j (cut a A) (cut b B))) := by
  unfold silversideref03_Times.f
  rw [tb_length, tb_length, w64 (n := (a : Int) + b) (by omega) (by omega), w64 (by omega) (by omega), show (a : Int) + b - 1 = (N : Int) from by omega, Int.toNat_natCast]
  refine Ev.pos (by omega) (Ev.pos (by omega) ?_)
  rw [tb_zero]
  have e := times_l0 a b N A B hN hN' ha a 0 (by omega)
  rw [tb_congr (n := N) (f := fun j => cv j (cut 0 A) (cut b B)) (g := fun _ => 0) (fun j _ => by rw [cut_zero, cv_zero_left])] at e
  exact e
theorem numbers_l0 (n : Nat) (f : PS) (hn : n ≤ 100000) (m : Nat) : ∀ i, i + m = n → Ev (fun k => silversideref03_Numbers.l0 k (strOfNums (tb n f)) (tb i f) (i : Int)) (tb n f) := by
  induction m with
  | zero =>
    intro i hi
    obtain rfl : i = n := by omega
    refine Ev.step (f := fun k => _) (fun k => by rw [silversideref03_Numbers.l0]) ?_
    exact Ev.neg (by rw [str_size]; omega) (Ev.now _)
  | succ m ih =>
    intro i hi
    refine Ev.step (f := fun k => _) (fun k => by rw [silversideref03_Numbers.l0]) ?_
    refine Ev.pos (by rw [str_size]; omega) (Ev.pos (by omega) (Ev.pos (by rw [tb_length]; omega) ?_))
    rw [bt_tb n f i (by omega), wv, tb_snoc, w64 (by omega) (by omega)]
    exact ih (i + 1) (by omega)
theorem NumbersG (n : Nat) (f : PS) (hn : n ≤ 100000) : Ev (fun k => silversideref03_Numbers.f k (strOfNums (tb n f))) (tb n f) := by
  unfold silversideref03_Numbers.f; exact numbers_l0 n f hn n 0 (by omega)
open Rs (PS GF hv gen nx en cut wd cv st sh tl loc als cnt)
open Rs.GF (al)
/-! ### the reference's syndromes -/
theorem at_l0 (n : Nat) (f : PS) (x : GF) (hn : n ≤ 100000) (m : Nat) : ∀ (i : Nat), i + m = n → Ev (fun k => silversideref03_At.l0 k (tb n f) ((x.v : Nat) : Int) (((hv i f x).v : Nat) : Int) (i : Int)) (((hv n f x).v : Nat) : Int) := by
  induction m with
  | zero =>
    intro i hi
    obtain rfl : i = n := by omega
    refine Ev.step (f := fun k => _) (fun k => by rw [silversideref03_At.l0]) ?_
    exact Ev.neg (by rw [tb_length]; omega) (Ev.now _)
  | succ m ih =>
    intro i hi
    refine Ev.step (f := fun k => _) (fun k => by rw [silversideref03_At.l0]) ?_
    refine Ev.pos (by rw [tb_length]; omega) (Ev.bind (refMulG _ _) (Ev.pos (by omega) ?_))
    rw [tb_rd n f i (by omega), xor64G, ← Rs.hv_horner, w64 (by omega) (by omega)]
    exact ih (i + 1) (by omega)
theorem atG (n : Nat) (f : PS) (x : GF) (hn : n ≤ 100000) : Ev (fun k => silversideref03_At.f k (tb n f) ((x.v : Nat) : Int)) (((hv n f x).v : Nat) : Int) := by
  unfold silversideref03_At.f; exact at_l0 n f x hn n 0 (by omega)
theorem rsyn_l0 (n p : Nat) (f : PS) (hp : p ≤ 1000) (hn : n ≤ 100000) (m : Nat) : ∀ (i : Nat), i + m = p → Ev (fun k => silversideref03_Syndromes.l0 k (tb n f) (p : Int) (tb i (sy n f)) (i : Int)) (tb p (sy n f)) := by
  induction m with
  | zero =>
    intro i hi
    obtain rfl : i = p := by omega
    refine Ev.step (f := fun k => _) (fun k => by rw [silversideref03_Syndromes.l0]) ?_
    exact Ev.neg (by omega) (Ev.now _)
  | succ m ih =>
    intro i hi
    refine Ev.step (f := fun k => _) (fun k => by rw [silversideref03_Syndromes.l0]) ?_
    refine Ev.pos (by omega) (Ev.bind (pow2G i (by omega)) (Ev.bind (atG n f (al i) hn) (Ev.pos (by rw [tb_length]; omega) ?_)))
    rw [w64 (by omega) (by omega), show hv n f (al i) = sy n f i from rfl, tb_snoc]
    exact ih (i + 1) (by omega)
theorem refSynG (n p : Nat) (f : PS) (hp : p ≤ 1000) (hn : n ≤ 100000) : Ev (fun k => silversideref03_Syndromes.f k (tb n f) (p : Int)) (tb p (sy n f)) := by
  unfold silversideref03_Syndromes.f; exact rsyn_l0 n p f hp hn p 0 (by omega)
theorem ris_l0 (n : Nat) (f : PS) (hn : n ≤ 100000) (m : Nat) : ∀ i, i + m = n → (∀ j, j < i → f j = 0) → Ev (fun k => silversideref03_Is.l0 k (n : Int) (tb n f) (i : Int)) (zB n f) := by
  induction m with
  | zero =>
    intro i hi h
    obtain rfl : i = n := by omega
    refine Ev.step (f := fun k => _) (fun k => by rw [silversideref03_Is.l0]) ?_
    rw [(zB_iff i f).2 h]
    exact Ev.neg (by omega) (Ev.now _)
  | succ m ih =>
    intro i hi h
    refine Ev.step (f := fun k => _) (fun k => by rw [silversideref03_Is.l0]) ?_
    refine Ev.pos (by omega) (Ev.pos (by omega) (Ev.pos (by rw [tb_length]; omega) ?_))
    rw [tb_rd n f i (by omega)]
    by_cases h0 : f i = 0
    · refine Ev.pos ((v0 _).2 h0) ?_
      rw [w64 (by omega) (by omega)]
      exact ih (i + 1) (by omega) (fun j hj => by
        by_cases e : j = i
        · rw [e]; exact h0
        · exact h j (by omega))
    · rw [zB_false (show i < n by omega) h0]
      exact Ev.neg (fun e => h0 ((v0 _).1 e)) (Ev.now _)
theorem refIsG (n p : Nat) (f : PS) (hp : p ≤ 1000) (hn : n ≤ 100000) : Ev (fun k => silversideref03_Is.f k (tb n f) (p : Int)) (zB p (sy n f)) := by
  unfold silversideref03_Is.f
  exact Ev.bind (refSynG n p f hp hn) (ris_l0 p _ (by omega) p 0 (by omega) (fun j hj => by omega))
end Go.Proofs.Ytdgjanjoiabgfaa.Pure
