/- What Encode comes to. -/
import Derived.Test.YtdgjanjoiabgfaaQ2
import Derived.Test.YtdgjanjoiabgfaaQ2
import Derived.Test.YtdgjanjoiabgfaaU1
namespace Go.Proofs.Ytdgjanjoiabgfaa.Pure
open Go.RowKit Go.Proofs.Ytdgjanjoiabgfaa.Q Go.Proofs.YtdgjanjoiabgfaaW.PrintWords Go.Proofs.YtdgjanjoiabgfaaW.PrintLast Go.Proofs.YtdgjanjoiabgfaaW.PrintMore
set_option linter.unusedVariables false
set_option linter.unusedSimpArgs false
open Rs (PS GF hv gen gen_zero gen_deg nx en cut wd cv cv_congr cv_comm cv_zero_left cv_add_left cv_smul_left st sh tl loc als cnt)
open Rs.GF (al)
/-! ### the generator, and Encode -/
theorem two_tb (a b : GF) : ([((a.v : Nat) : Int), ((b.v : Nat) : Int)] : List Int) = tb 2 (fun j => if j = 0 then a else b) := rfl
theorem cv_two (a b : GF) (g : PS) (k : Nat) : cv k (cut 2 (fun j => if j = 0 then a else b)) g = a * g k + b * sh g k := by
  cases k with
  | zero => show a * g 0 = a * g 0 + b * 0; rw [Rs.GF.mul_zero, Rs.GF.add_zero]
  | succ k =>
    show a * g (k + 1) + cv k (tl (cut 2 (fun j => if j = 0 then a else b))) g = a * g (k + 1) + b * g k
    rw [tl_cut, Rs.cv_first k _ _ (fun i h _ => .inl (by unfold cut; rw [if_neg (by omega)]))]
    rfl
/-- the generator, that of the lowest power first -/
def gup (p : Nat) : PS := fun k => gen p (p - k)
theorem gup_step (i j : Nat) (h : j < i + 2) : cv j (cut (i + 1) (gup i)) (cut 2 (fun j => if j = 0 then al i else 1)) = gup (i + 1) j := by
  rw [cv_comm, cv_two, Rs.GF.one_mul]
  show _ = st (al i) (gen i) (i + 1 - j)
  unfold st
  cases j with
  | zero =>
    show al i * cut (i + 1) (gup i) 0 + 0 = gen i (i + 1) + al i * gen i i
    rw [Rs.GF.add_zero, gen_deg i (i + 1) (by omega), Rs.GF.zero_add]
    unfold cut; rw [if_pos (by omega)]; rfl
  | succ j =>
    show al i * cut (i + 1) (gup i) (j + 1) + cut (i + 1) (gup i) j = gen i (i + 1 - (j + 1)) + al i * sh (gen i) (i + 1 - (j + 1))
    have e1 : cut (i + 1) (gup i) j = gen i (i + 1 - (j + 1)) := by unfold cut gup; rw [if_pos (by omega)]; congr 1; omega
    rw [e1, Rs.GF.add_comm]
    congr 1
    by_cases e : j = i
    · subst e
      rw [show j + 1 - (j + 1) = 0 from by omega]
      show al j * cut (j + 1) (gup j) (j + 1) = al j * 0
      unfold cut; rw [if_neg (by omega)]
    · rw [show i + 1 - (j + 1) = (i - (j + 1)) + 1 from by omega]
      show al i * cut (i + 1) (gup i) (j + 1) = al i * gen i (i - (j + 1))
      unfold cut; rw [if_pos (by omega)]; rfl
theorem generator_l0 (p m : Nat) (hp : p ≤ 1000) : ∀ i, i + m = p → Ev (fun k => label_generator.l0 k (tb (i + 1) (gup i)) (p : Int) (i : Int)) (tb (p + 1) (gup p)) := by
  induction m with
  | zero =>
    intro i hi
    obtain rfl : i = p := by omega
    refine Ev.step (f := fun k => _) (fun k => by rw [label_generator.l0]) ?_
    exact Ev.neg (by omega) (Ev.now _)
  | succ m ih =>
    intro i hi
    refine Ev.step (f := fun k => _) (fun k => by rw [label_generator.l0]) ?_
    refine Ev.pos (by omega) (Ev.bind' (expG i (by omega)) ?_)
    have e := timesG (i + 1) 2 (i + 2) (gup i) (fun j => if j = 0 then al i else 1) (by omega) (by omega) (by omega)
    rw [tb_congr (fun j hj => gup_step i j hj)] at e
    refine Ev.bind' (a := tb (i + 2) (gup (i + 1))) ?_ ?_
    · rw [w64 (by omega) (by omega), show (i : Int) + 2 = ((i + 2 : Nat) : Int) from by omega]; exact e
    · rw [w64 (by omega) (by omega), show (i : Int) + 1 = ((i + 1 : Nat) : Int) from by omega]
      exact ih (i + 1) (by omega)
theorem generatorG (p : Nat) (hp : p ≤ 1000) : Ev (fun k => label_generator.f k (p : Int)) (tb (p + 1) (gup p)) := by
  unfold label_generator.f
  have e : ([1] : List Int) = tb 1 (gup 0) := rfl
  rw [e]; exact generator_l0 p p hp 0 (by omega)
theorem encK_tb (p i N : Nat) (c : GF) (m : Nat) : ∀ (k : Nat) (R : PS), k + m = p → i + 1 + p ≤ N →
    encK (tb (p + 1) (gup p)) p i ((c.v : Nat) : Int) m k (tb N R) = tb N (fun j => if i + 1 + k ≤ j then R j + c * gen p (j - i) else R j) := by
  induction m with
  | zero =>
    intro k R hk hN
    show tb N R = _
    refine tb_congr fun j _ => ?_
    split
    · rw [gen_deg p (j - i) (by omega), Rs.GF.mul_zero, Rs.GF.add_zero]
    · rfl
  | succ m ih =>
    intro k R hk hN
    show encK _ p i _ m (k + 1) ((tb N R).set (i + 1 + k) (Go.bits .xor .u8 (rd (tb N R) (i + 1 + k : Nat)) (Rs.mulN ((c.v : Nat) : Int).toNat (rd (tb (p + 1) (gup p)) (p - 1 - k : Nat)).toNat : Nat))) = _
    rw [tb_rd N R _ (by omega), tb_rd (p + 1) (gup p) _ (by omega), Int.toNat_natCast, Int.toNat_natCast, ← Rs.GF.v_mul, xor8G, tb_set, ih (k + 1) _ (by omega) hN]
    refine tb_congr fun j _ => ?_
    by_cases e : j = i + 1 + k
    · subst e
      rw [if_pos rfl, if_neg (by omega), if_pos (Nat.le_refl _)]
      unfold gup; rw [show p - (p - 1 - k) = i + 1 + k - i from by omega]
    · rw [if_neg e]
      by_cases h : i + 1 + k ≤ j
      · rw [if_pos h, if_pos (by omega)]
      · rw [if_neg h, if_neg (by omega)]
theorem encI_tb (p n : Nat) (m : Nat) : ∀ (i : Nat) (R : PS), i + m = n →
    ∃ R', encI (tb (p + 1) (gup p)) p m i (tb (n + p) R) = tb (n + p) R' ∧ ∀ t, R' (n + t) = en (gen p) m (fun j => R (i + j)) t := by
  induction m with
  | zero => intro i R hi; exact ⟨R, rfl, fun t => by rw [show n = i from by omega]; rfl⟩
  | succ m ih =>
    intro i R hi
    obtain ⟨R', h1, h2⟩ := ih (i + 1) (fun j => if i + 1 + 0 ≤ j then R j + R i * gen p (j - i) else R j) (by omega)
    refine ⟨R', ?_, fun t => ?_⟩
    · show encI _ p m (i + 1) (encK _ p i (rd (tb (n + p) R) i) p 0 (tb (n + p) R)) = _
      rw [tb_rd _ R i (by omega), encK_tb p i (n + p) (R i) p 0 R (by omega) (by omega)]
      exact h1
    · rw [h2 t]
      show en (gen p) m _ t = en (gen p) m (nx (gen p) (fun j => R (i + j))) t
      refine Rs.en_congr _ _ _ _ (fun j => ?_) t
      show (if i + 1 + 0 ≤ i + 1 + j then R (i + 1 + j) + R i * gen p (i + 1 + j - i) else R (i + 1 + j)) = R (i + (j + 1)) + R (i + 0) * gen p (j + 1)
      rw [if_pos (by omega), show i + 1 + j - i = j + 1 from by omega, show i + (j + 1) = i + 1 + j from by omega]; rfl
theorem start_tb (n p : Nat) (f : PS) : tb n f ++ List.replicate p (0 : Int) = tb (n + p) (cut n f) := by
  rw [tb_zero, tb_append]; rfl
theorem wd_tb (n p : Nat) (f R : PS) (h : ∀ t, R (n + t) = en (gen p) n (cut n f) t) : tb n f ++ (tb (n + p) R).drop n = tb (n + p) (wd n p f) := by
  rw [tb_drop, tb_append]
  refine tb_congr fun j _ => ?_
  unfold wd
  split
  · rfl
  · rw [h (j - n)]
theorem parG (n p : Nat) (hp : p ≤ 64) : label_isParameters.f (n : Int) (p : Int) = some (decide (p < n ∧ n ≤ 255)) := by
  unfold label_isParameters.f
  rw [if_pos (by omega), if_pos (by omega), w64 (by omega) (by omega)]
  by_cases h : p < n
  · rw [if_pos (by omega)]; congr 1; exact decide_eq_decide.2 (by omega)
  · rw [if_neg (by omega)]; congr 1; exact (decide_eq_false (by omega)).symm
theorem EncodeG (n p : Nat) (f : PS) (hn : 0 < n) (hp : p ≤ 64) (hN : n + p ≤ 255) : Ev (fun k => label_Encode.f k (strOfNums (tb n f)) (p : Int)) (strOfNums (tb (n + p) (wd n p f)), 0) := by
  unfold label_Encode.f
  refine Ev.neg (by omega) (Ev.neg (by omega) ?_)
  rw [str_size, w64 (by omega) (by omega), show (n : Int) + p = ((n + p : Nat) : Int) from by omega]
  refine Ev.bind' (parG (n + p) p hp) (Ev.pos (decide_eq_true (by omega)) (Ev.bind (generatorG p (by omega)) ?_))
  refine Ev.pos ⟨tb_bytes _ _, by rw [tb_length]; omega, by omega, hn⟩ ?_
  obtain ⟨R, h1, h2⟩ := encI_tb p n n 0 (cut n f) (by omega)
  rw [Int.toNat_natCast, bytes_tb, start_tb, h1, ← str_append, wd_tb n p f R (fun t => by rw [h2 t]; exact Rs.en_congr _ _ _ _ (fun j => by rw [Nat.zero_add]) t)]
  exact Ev.now _
theorem EncodeBad (s : ByteArray) (p : Int) (h : p < 0 ∨ p > 64 ∨ ¬ (0 < s.size ∧ (s.size : Int) + p ≤ 255)) (hs : s.size ≤ 300) : Ev (fun k => label_Encode.f k s p) (⟨#[]⟩, 2) := by
  unfold label_Encode.f
  by_cases h0 : p < 0
  · exact Ev.pos h0 (Ev.now _)
  · by_cases h1 : p > 64
    · exact Ev.neg h0 (Ev.pos h1 (Ev.now _))
    · obtain ⟨q, rfl⟩ := Int.eq_ofNat_of_zero_le (show 0 ≤ p by omega)
      refine Ev.neg h0 (Ev.neg h1 ?_)
      rw [w64 (by omega) (by omega), show (s.size : Int) + q = ((s.size + q : Nat) : Int) from by omega]
      exact Ev.bind' (parG (s.size + q) q (by omega)) (Ev.neg (by simp; omega) (Ev.now _))
end Go.Proofs.Ytdgjanjoiabgfaa.Pure
