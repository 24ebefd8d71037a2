/- What the reference's texts and its Encode come to. -/
import Derived.Test.YtdgjanjoiabgfaaQ13
import Derived.Test.YtdgjanjoiabgfaaQ9
import Derived.Test.YtdgjanjoiabgfaaU3
namespace Go.Proofs.Ytdgjanjoiabgfaa.Pure
open Go.RowKit Go.Proofs.Ytdgjanjoiabgfaa.Q Go.Proofs.YtdgjanjoiabgfaaW.PrintWords Go.Proofs.YtdgjanjoiabgfaaW.PrintLast Go.Proofs.YtdgjanjoiabgfaaW.PrintMore
set_option linter.unusedVariables false
set_option linter.unusedSimpArgs false
open Rs (PS GF hv gen gen_zero gen_deg nx en cut wd cv cv_congr cv_comm cv_zero_left cv_add_left cv_smul_left st sh tl loc als cnt)
open Rs.GF (al)
/-! ### the reference's Encode -/
theorem text_l0 (n : Nat) (f : PS) (hn : n ≤ 100000) (m : Nat) : ∀ i, i + m = n → Ev (fun k => silversideref03_Text.l0 k (tb n f) (tb i f) (i : Int)) (strOfNums (tb n f)) := by
  induction m with
  | zero =>
    intro i hi
    obtain rfl : i = n := by omega
    refine Ev.step (f := fun k => _) (fun k => by rw [silversideref03_Text.l0]) ?_
    exact Ev.neg (by rw [tb_length]; omega) (Ev.now _)
  | succ m ih =>
    intro i hi
    refine Ev.step (f := fun k => _) (fun k => by rw [silversideref03_Text.l0]) ?_
    refine Ev.pos (by rw [tb_length]; omega) (Ev.pos (by omega) (Ev.pos (by rw [tb_length]; omega) ?_))
    rw [tb_rd n f i (by omega), show (((f i).v : Nat) : Int) % 256 = ((f i).v : Nat) from by have := (f i).v_lt; omega, tb_snoc, w64 (by omega) (by omega)]
    exact ih (i + 1) (by omega)
theorem TextG (n : Nat) (f : PS) (hn : n ≤ 100000) : Ev (fun k => silversideref03_Text.f k (tb n f)) (strOfNums (tb n f)) := by
  unfold silversideref03_Text.f; exact text_l0 n f hn n 0 (by omega)
theorem enc_l4 (n N : Nat) (f : PS) (hn : n ≤ N) (hN : N ≤ 10000) (m : Nat) : ∀ (i : Nat) (R : PS), i + m = n → Ev (fun k => silversideref03_Encode.l4 k (tb n f) (tb N R) (i : Int)) (tb N (fun j => if i ≤ j ∧ j < n then f j else R j)) := by
  induction m with
  | zero =>
    intro i R hi
    refine Ev.step (f := fun k => _) (fun k => by rw [silversideref03_Encode.l4]) ?_
    refine Ev.neg (by rw [tb_length]; omega) ?_
    rw [tb_congr (n := N) (f := fun j => if i ≤ j ∧ j < n then f j else R j) (g := R) (fun j _ => if_neg (by omega))]
    exact Ev.now _
  | succ m ih =>
    intro i R hi
    refine Ev.step (f := fun k => _) (fun k => by rw [silversideref03_Encode.l4]) ?_
    refine Ev.pos (by rw [tb_length]; omega) (Ev.pos (by omega) (Ev.pos (by rw [tb_length]; omega) ?_))
    rw [tb_rd n f i (by omega), Int.toNat_natCast, tb_set, w64 (by omega) (by omega), show (i : Int) + 1 = ((i + 1 : Nat) : Int) from by omega]
    have e := ih (i + 1) (fun j => if j = i then f i else R j) (by omega)
    rw [tb_congr (n := N) (f := fun j => if i + 1 ≤ j ∧ j < n then f j else (if j = i then f i else R j)) (g := fun j => if i ≤ j ∧ j < n then f j else R j) (fun j _ => by
      by_cases e : j = i
      · subst e; rw [if_neg (by omega), if_pos rfl, if_pos (by omega)]
      · rw [if_neg e]
        by_cases h : i ≤ j ∧ j < n
        · rw [if_pos h, if_pos (by omega)]
        · rw [if_neg h, if_neg (by omega)])] at e
    exact e
theorem enc_l3 (n p N i : Nat) (f : PS) (c : GF) (r : List Int) (hi : i < n) (hN : N = n + p) (hN' : N ≤ 10000) (m : Nat) : ∀ (q : Nat) (R : PS), q + m = p + 1 →
    Ev (fun k => silversideref03_Encode.l2 k (tb n f) (tb (p + 1) (gen p)) (tb N (fun j => if i + q ≤ j then R j + c * gen p (j - i) else R j)) ((i + 1 : Nat) : Int)) r →
    Ev (fun k => silversideref03_Encode.l3 k (tb n f) (tb (p + 1) (gen p)) (tb N R) (i : Int) ((c.v : Nat) : Int) (q : Int)) r := by
  induction m with
  | zero =>
    intro q R hq h
    refine Ev.step (f := fun k => _) (fun k => by rw [silversideref03_Encode.l3]) ?_
    refine Ev.neg (by rw [tb_length]; omega) ?_
    rw [w64 (by omega) (by omega), show (i : Int) + 1 = ((i + 1 : Nat) : Int) from by omega]
    rw [tb_congr (n := N) (f := fun j => if i + q ≤ j then R j + c * gen p (j - i) else R j) (g := R) (fun j _ => by
      by_cases h : i + q ≤ j
      · rw [if_pos h, gen_deg p (j - i) (by omega), Rs.GF.mul_zero, Rs.GF.add_zero]
      · rw [if_neg h])] at h
    exact h
  | succ m ih =>
    intro q R hq h
    refine Ev.step (f := fun k => _) (fun k => by rw [silversideref03_Encode.l3]) ?_
    rw [w64 (n := (i : Int) + q) (by omega) (by omega), w64 (n := (q : Int) + 1) (by omega) (by omega)]
    refine Ev.pos (by rw [tb_length]; omega) (Ev.pos (by omega) (Ev.pos (by rw [tb_length]; omega) (Ev.pos (by omega) ?_)))
    rw [tb_rd (p + 1) (gen p) q (by omega), show (i : Int) + q = ((i + q : Nat) : Int) from by omega, show (q : Int) + 1 = ((q + 1 : Nat) : Int) from by omega, tb_rd N R (i + q) (by omega), Int.toNat_natCast]
    refine Ev.bind (refMulG c (gen p q)) ?_
    rw [xor64G, tb_set]
    refine ih (q + 1) _ (by omega) ?_
    rw [tb_congr (n := N) (f := fun j => if i + (q + 1) ≤ j then (if j = i + q then R (i + q) + c * gen p q else R j) + c * gen p (j - i) else (if j = i + q then R (i + q) + c * gen p q else R j)) (g := fun j => if i + q ≤ j then R j + c * gen p (j - i) else R j) (fun j _ => by
      by_cases e : j = i + q
      · subst e
        rw [if_pos rfl, if_neg (by omega), if_pos (Nat.le_refl _), Nat.add_sub_cancel_left]
      · rw [if_neg e]
        by_cases h' : i + q ≤ j
        · rw [if_pos h', if_pos (by omega)]
        · rw [if_neg h', if_neg (by omega)])]
    exact h
theorem enc_l2 (n p N : Nat) (f : PS) (r : List Int) (hN : N = n + p) (hN' : N ≤ 10000) (m : Nat) : ∀ (i : Nat) (R : PS), i + m = n →
    (∀ R' : PS, (∀ t, R' (n + t) = en (gen p) m (fun j => R (i + j)) t) → Ev (fun k => silversideref03_Encode.l4 k (tb n f) (tb N R') 0) r) →
    Ev (fun k => silversideref03_Encode.l2 k (tb n f) (tb (p + 1) (gen p)) (tb N R) (i : Int)) r := by
  induction m with
  | zero =>
    intro i R hi h
    refine Ev.step (f := fun k => _) (fun k => by rw [silversideref03_Encode.l2]) ?_
    refine Ev.neg (by rw [tb_length]; omega) ?_
    exact h R (fun t => by rw [show n = i from by omega]; rfl)
  | succ m ih =>
    intro i R hi h
    refine Ev.step (f := fun k => _) (fun k => by rw [silversideref03_Encode.l2]) ?_
    refine Ev.pos (by rw [tb_length]; omega) (Ev.pos (by omega) (Ev.pos (by rw [tb_length]; omega) ?_))
    rw [tb_rd N R i (by omega)]
    refine enc_l3 n p N i f (R i) r (by omega) hN hN' (p + 1) 0 R (by omega) ?_
    refine ih (i + 1) _ (by omega) (fun R' h2 => h R' (fun t => ?_))
    rw [h2 t]
    show en (gen p) m _ t = en (gen p) m (nx (gen p) (fun j => R (i + j))) t
    refine Rs.en_congr _ _ _ _ (fun j => ?_) t
    show (if i + 0 ≤ i + 1 + j then R (i + 1 + j) + R i * gen p (i + 1 + j - i) else R (i + 1 + j)) = R (i + (j + 1)) + R (i + 0) * gen p (j + 1)
    rw [if_pos (by omega), show i + 1 + j - i = j + 1 from by omega, show i + (j + 1) = i + 1 + j from by omega]; rfl
theorem enc_l1 (n p N : Nat) (f : PS) (r : List Int) (hn : n ≤ N) (hN : N ≤ 10000) (m : Nat) : ∀ (i : Nat) (R : PS), i + m = n →
    Ev (fun k => silversideref03_Encode.l2 k (tb n f) (tb (p + 1) (gen p)) (tb N (fun j => if i ≤ j ∧ j < n then f j else R j)) 0) r →
    Ev (fun k => silversideref03_Encode.l1 k (tb n f) (tb (p + 1) (gen p)) (tb N R) (i : Int)) r := by
  induction m with
  | zero =>
    intro i R hi h
    refine Ev.step (f := fun k => _) (fun k => by rw [silversideref03_Encode.l1]) ?_
    refine Ev.neg (by rw [tb_length]; omega) ?_
    rw [tb_congr (n := N) (f := fun j => if i ≤ j ∧ j < n then f j else R j) (g := R) (fun j _ => if_neg (by omega))] at h
    exact h
  | succ m ih =>
    intro i R hi h
    refine Ev.step (f := fun k => _) (fun k => by rw [silversideref03_Encode.l1]) ?_
    refine Ev.pos (by rw [tb_length]; omega) (Ev.pos (by omega) (Ev.pos (by rw [tb_length]; omega) ?_))
    rw [tb_rd n f i (by omega), Int.toNat_natCast, tb_set, w64 (by omega) (by omega), show (i : Int) + 1 = ((i + 1 : Nat) : Int) from by omega]
    refine ih (i + 1) _ (by omega) ?_
    rw [tb_congr (n := N) (f := fun j => if i + 1 ≤ j ∧ j < n then f j else (if j = i then f i else R j)) (g := fun j => if i ≤ j ∧ j < n then f j else R j) (fun j _ => by
      by_cases e : j = i
      · subst e; rw [if_neg (by omega), if_pos rfl, if_pos (by omega)]
      · rw [if_neg e]
        by_cases h : i ≤ j ∧ j < n
        · rw [if_pos h, if_pos (by omega)]
        · rw [if_neg h, if_neg (by omega)])]
    exact h
theorem gen_next (i j : Nat) : cv j (cut (i + 1) (gen i)) (cut 2 (fun j => if j = 0 then 1 else al i)) = gen (i + 1) j := by
  rw [cv_comm, cv_two, Rs.GF.one_mul, show cut (i + 1) (gen i) = gen i from funext fun t => by unfold cut; split; rfl; exact (gen_deg i t (by omega)).symm]; rfl
theorem enc_l0 (n p : Nat) (f : PS) (r : List Int) (hp : p ≤ 64) (hn : n + p ≤ 10000)
    (h : Ev (fun k => silversideref03_Encode.l1 k (tb n f) (tb (p + 1) (gen p)) (tb (n + p) (fun _ => 0)) 0) r) (m : Nat) : ∀ (i : Nat), i + m = p →
    Ev (fun k => silversideref03_Encode.l0 k (tb n f) (p : Int) (tb (i + 1) (gen i)) (i : Int)) r := by
  induction m with
  | zero =>
    intro i hi
    obtain rfl : i = p := by omega
    refine Ev.step (f := fun k => _) (fun k => by rw [silversideref03_Encode.l0]) ?_
    rw [tb_length, w64 (n := (n : Int) + i) (by omega) (by omega), show (n : Int) + i = ((n + i : Nat) : Int) from by omega, Int.toNat_natCast]
    refine Ev.neg (by omega) (Ev.pos (by omega) (Ev.pos (by omega) ?_))
    rw [tb_zero]; exact h
  | succ m ih =>
    intro i hi
    refine Ev.step (f := fun k => _) (fun k => by rw [silversideref03_Encode.l0]) ?_
    refine Ev.pos (by omega) (Ev.bind (pow2G i (by omega)) ?_)
    have e := refTimesG (i + 1) 2 (i + 2) (gen i) (fun j => if j = 0 then 1 else al i) (by omega) (by omega) (by omega) (by omega)
    rw [tb_congr (n := i + 2) (fun j _ => gen_next i j)] at e
    refine Ev.bind e ?_
    rw [w64 (by omega) (by omega), show (i : Int) + 1 = ((i + 1 : Nat) : Int) from by omega]
    exact ih (i + 1) (by omega)
theorem refEncodeG (n p : Nat) (f : PS) (hp : p ≤ 64) (hn : n + p ≤ 10000) : Ev (fun k => silversideref03_Encode.f k (tb n f) (p : Int)) (tb (n + p) (wd n p f)) := by
  unfold silversideref03_Encode.f
  refine enc_l0 n p f _ hp hn ?_ p 0 (by omega)
  refine enc_l1 n p (n + p) f _ (by omega) hn n 0 _ (by omega) ?_
  refine enc_l2 n p (n + p) f _ rfl hn n 0 _ (by omega) (fun R h => ?_)
  have e := enc_l4 n (n + p) f (by omega) hn n 0 R (by omega)
  rw [tb_congr (n := n + p) (f := fun j => if 0 ≤ j ∧ j < n then f j else R j) (g := wd n p f) (fun j _ => by
    unfold wd
    by_cases h' : j < n
    · rw [if_pos h', if_pos ⟨by omega, h'⟩]
    · rw [if_neg h', if_neg (by omega), show R j = R (n + (j - n)) from by congr 1; omega, h (j - n)]
      refine Rs.en_congr _ _ _ _ (fun t => ?_) _
      show (if 0 ≤ 0 + t ∧ 0 + t < n then f (0 + t) else 0) = cut n f t
      unfold cut
      rw [Nat.zero_add]
      by_cases h'' : t < n
      · rw [if_pos h'', if_pos ⟨by omega, h''⟩]
      · rw [if_neg h'', if_neg (by omega)])] at e
  exact e
end Go.Proofs.Ytdgjanjoiabgfaa.Pure
