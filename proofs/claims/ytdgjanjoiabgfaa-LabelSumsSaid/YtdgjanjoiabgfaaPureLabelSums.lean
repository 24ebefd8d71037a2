/- LabelSums: the sum of two codewords is the codeword of the sum, and a multiple is a codeword; no condition. -/
import Derived.Test.YtdgjanjoiabgfaaQ32
import Derived.Test.YtdgjanjoiabgfaaU7
import Derived.Test.YtdgjanjoiabgfaaU8
namespace Go.Proofs.Ytdgjanjoiabgfaa.Pure
open Go.RowKit Go.Proofs.Ytdgjanjoiabgfaa.Q Go.Proofs.YtdgjanjoiabgfaaW.PrintWords Go.Proofs.YtdgjanjoiabgfaaW.PrintLast Go.Proofs.YtdgjanjoiabgfaaW.PrintMore
set_option linter.unusedVariables false
set_option linter.unusedSimpArgs false
open Rs (PS GF hv wd cnt)
open Rs.GF (al)
theorem wd_sy (n q : Nat) (f : PS) (i : Nat) (hi : i < q) : sy (n + q) (wd n q f) i = 0 := Rs.wd_code n q f i hi
theorem sums_l1 (n q : Nat) (f g : PS) (c : GF) (hn : 0 < n) (hq : q ≤ 64) (hN : n + q ≤ 255) (m : Nat) : ∀ i, i + m = n + q →
    Ev (fun k => silversidelaw03_LabelSums.l1 k (strOfNums (tb n f)) (q : Int) ((c.v : Nat) : Int) (strOfNums (tb (n + q) (wd n q f))) (strOfNums (tb (n + q) (wd n q g)))
      (tb (n + q) (fun j => if j < i then wd n q f j + wd n q g j else 0)) (tb (n + q) (fun j => if j < i then wd n q f j * c else 0)) (i : Int)) true := by
  induction m with
  | zero =>
    intro i hi
    obtain rfl : i = n + q := by omega
    refine Ev.step (f := fun k => _) (fun k => by rw [silversidelaw03_LabelSums.l1]) ?_
    refine Ev.neg (by rw [str_size]; omega) ?_
    rw [tb_congr (n := n + q) (f := fun j => if j < n + q then wd n q f j + wd n q g j else 0) (g := fun j => wd n q f j + wd n q g j) (fun j hj => if_pos hj), tb_congr (n := n + q) (f := fun j => if j < n + q then wd n q f j * c else 0) (g := fun j => c * wd n q f j) (fun j hj => by rw [if_pos hj, Rs.GF.mul_comm])]
    have z1 : zB q (sy (n + q) (fun j => wd n q f j + wd n q g j)) = true := (zB_iff _ _).2 fun j hj => by
      show hv (n + q) (fun j => wd n q f j + wd n q g j) (al j) = 0
      rw [Rs.hv_add, Rs.wd_code n q f j hj, Rs.wd_code n q g j hj, Rs.GF.add_zero]
    have z2 : zB q (sy (n + q) (fun j => c * wd n q f j)) = true := (zB_iff _ _).2 fun j hj => by
      show hv (n + q) (fun j => c * wd n q f j) (al j) = 0
      rw [Rs.hv_smul, Rs.wd_code n q f j hj, Rs.GF.mul_zero]
    refine Ev.bind (IsG (n + q) q _ hq (by omega) hN) (Ev.bind (IsG (n + q) q _ hq (by omega) hN) ?_)
    rw [str_size, tb_length]
    refine Ev.pos (by omega) (Ev.pos (by omega) ?_)
    rw [Int.toNat_natCast, tb_take n (n + q) _ (by omega)]
    refine Ev.bind (EncodeG n q _ hn hq hN) (Ev.pos z1 (Ev.pos rfl (Ev.pos z2 (Ev.pos rfl (Ev.pos rfl (Ev.pos ?_ awake_end))))))
    rw [tb_congr (n := n + q) (f := wd n q (fun j => wd n q f j + wd n q g j)) (g := fun j => wd n q f j + wd n q g j) (fun j _ => by
      rw [← Rs.wd_add]
      refine Rs.wd_congr n q _ _ (fun j hj => ?_) j
      show wd n q f j + wd n q g j = f j + g j
      unfold wd; rw [if_pos hj, if_pos hj])]
  | succ m ih =>
    intro i hi
    refine Ev.step (f := fun k => _) (fun k => by rw [silversidelaw03_LabelSums.l1]) ?_
    refine Ev.pos (by rw [str_size]; omega) (Ev.pos (by omega) (Ev.pos (by rw [str_size]; omega) (Ev.pos (by rw [tb_length]; omega) ?_)))
    rw [bt_tb (n + q) _ i (by omega), bt_tb (n + q) _ i (by omega)]
    refine Ev.bind' (MulG _ _) (Ev.pos (by rw [tb_length]; omega) ?_)
    rw [xor8G, Int.toNat_natCast, tb_set, tb_set, w64 (by omega) (by omega)]
    have e := ih (i + 1) (by omega)
    rw [tb_congr (n := n + q) (f := fun j => if j < i + 1 then wd n q f j + wd n q g j else 0) (g := fun j => if j = i then wd n q f i + wd n q g i else (if j < i then wd n q f j + wd n q g j else 0)) (fun j _ => by
      by_cases e : j = i
      · subst e; rw [if_pos (by omega), if_pos rfl]
      · rw [if_neg e]
        by_cases h : j < i
        · rw [if_pos h, if_pos (by omega)]
        · rw [if_neg h, if_neg (by omega)]),
      tb_congr (n := n + q) (f := fun j => if j < i + 1 then wd n q f j * c else 0) (g := fun j => if j = i then wd n q f i * c else (if j < i then wd n q f j * c else 0)) (fun j _ => by
      by_cases e : j = i
      · subst e; rw [if_pos (by omega), if_pos rfl]
      · rw [if_neg e]
        by_cases h : j < i
        · rw [if_pos h, if_pos (by omega)]
        · rw [if_neg h, if_neg (by omega)])] at e
    exact e
theorem sums_big (n q : Nat) (f : PS) (c : GF) (x : ByteArray) (hx : n ≤ x.size) (hn : 0 < n) (hq : q ≤ 64) (hN : n + q ≤ 255) :
    Ev (fun k => silversidelaw03_LabelSums.l0 k (strOfNums (tb n f)) x (q : Int) ((c.v : Nat) : Int)) true := by
  refine Ev.step (f := fun k => _) (fun k => by rw [silversidelaw03_LabelSums.l0]) ?_
  obtain ⟨g, hg⟩ := cut_str x n hx
  rw [str_size]
  refine Ev.neg (by omega) (Ev.bind (EncodeG n q f hn hq hN) (Ev.pos (by omega) (Ev.pos (by omega) ?_)))
  rw [Int.toNat_natCast, hg]
  refine Ev.bind (EncodeG n q g hn hq hN) (Ev.pos rfl (Ev.pos rfl (Ev.pos (by rw [str_size, str_size]) ?_)))
  rw [str_size]
  refine Ev.step (f := fun k => _) (fun k => by rw [silversidelaw03_LabelSums.j1]) ?_
  rw [w64 (by omega) (by omega)]
  refine Ev.neg (by simp) ?_
  rw [str_size, Int.toNat_natCast]
  refine Ev.pos (by omega) (Ev.pos (by omega) ?_)
  rw [tb_zero]
  have e := sums_l1 n q f g c hn hq hN (n + q) 0 (by omega)
  rw [tb_congr (n := n + q) (f := fun j => if j < 0 then wd n q f j + wd n q g j else 0) (g := fun _ => 0) (fun j _ => if_neg (by omega)), tb_congr (n := n + q) (f := fun j => if j < 0 then wd n q f j * c else 0) (g := fun _ => 0) (fun j _ => if_neg (by omega))] at e
  exact e
theorem LabelSums : silversidelaw03_LabelSums.Pure := by
  intro s0 x p by_ hs0 hx0 _ hb
  obtain ⟨c, rfl⟩ := of_u8 hb
  refine Ev.rounds (g := fun k => silversidelaw03_LabelSums.f k s0 x p ((c.v : Nat) : Int)) ?_
  unfold silversidelaw03_LabelSums.f
  obtain ⟨n, q, f, h1, h2, h3, h4, hf⟩ := fitG s0 p 100 (by omega) (by omega)
  refine Ev.bind hf ?_
  by_cases h : n ≤ x.size
  · exact sums_big n q f c x h h1 h4 h3
  · refine Ev.step (f := fun k => _) (fun k => by rw [silversidelaw03_LabelSums.l0]) ?_
    have e : ((strOfNums (tb n f)).extract x.size n).size = n - x.size := by rw [ByteArray.size_extract, str_size, Nat.min_self]
    rw [str_size, Int.toNat_natCast]
    refine Ev.pos (by omega) (Ev.pos (by omega) (Ev.pos (by omega) (Ev.pos (by rw [e]; omega) ?_)))
    exact sums_big n q f c _ (by rw [ByteArray.size_append, e]; omega) h1 h4 h3
end Go.Proofs.Ytdgjanjoiabgfaa.Pure
