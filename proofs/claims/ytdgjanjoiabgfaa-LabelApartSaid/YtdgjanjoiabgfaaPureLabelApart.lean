/- LabelApart: two different codewords of the same length differ at more places than there are check bytes; no condition. -/
import Derived.Test.YtdgjanjoiabgfaaQ19
import Derived.Test.YtdgjanjoiabgfaaU8
namespace Go.Proofs.Ytdgjanjoiabgfaa.Pure
open Go.RowKit Go.Proofs.Ytdgjanjoiabgfaa.Q Go.Proofs.YtdgjanjoiabgfaaW.PrintWords Go.Proofs.YtdgjanjoiabgfaaW.PrintLast Go.Proofs.YtdgjanjoiabgfaaW.PrintMore
set_option linter.unusedVariables false
set_option linter.unusedSimpArgs false
open Rs (PS GF hv wd cnt)
open Rs.GF (al)
theorem apart_l1 (n q : Nat) (f g : PS) (hn : 0 < n) (hq : q ≤ 64) (hN : n + q ≤ 255) (m : Nat) : ∀ i, i + m = n + q →
    Ev (fun k => silversidelaw03_LabelApart.l1 k (strOfNums (tb n f)) (strOfNums (tb n g)) (q : Int) (strOfNums (tb (n + q) (wd n q f))) (strOfNums (tb (n + q) (wd n q g)))
      ((cnt i (fun j => wd n q f j + wd n q g j) : Nat) : Int) (i : Int)) true := by
  induction m with
  | zero =>
    intro i hi
    obtain rfl : i = n + q := by omega
    refine Ev.step (f := fun k => _) (fun k => by rw [silversidelaw03_LabelApart.l1]) ?_
    refine Ev.neg (by rw [str_size]; omega) ?_
    by_cases h : strOfNums (tb n f) = strOfNums (tb n g)
    · refine Ev.pos (by rw [h]) (Ev.pos ?_ awake_end)
      have e := str_inj h
      rw [Rs.cnt_none _ _ (fun j _ => by
        show wd n q f j + wd n q g j = 0
        rw [Rs.wd_congr n q f g (tb_inj e) j, Rs.GF.add_self])]; rfl
    · refine Ev.neg (fun e => h (toList_inj e)) (Ev.pos ?_ awake_end)
      by_cases hc : cnt (n + q) (fun j => wd n q f j + wd n q g j) ≤ q
      · exfalso
        refine h (congrArg strOfNums (tb_congr fun j hj => ?_))
        have := Rs.far (n + q) q _ hN (fun i hi => by
          show hv (n + q) (fun j => wd n q f j + wd n q g j) (al i) = 0
          rw [Rs.hv_add, Rs.wd_code n q f i hi, Rs.wd_code n q g i hi, Rs.GF.add_zero]) hc j (by omega)
        have := Rs.GF.add_eq_zero this
        unfold wd at this
        rwa [if_pos hj, if_pos hj] at this
      · omega
  | succ m ih =>
    intro i hi
    refine Ev.step (f := fun k => _) (fun k => by rw [silversidelaw03_LabelApart.l1]) ?_
    refine Ev.pos (by rw [str_size]; omega) (Ev.pos (by omega) (Ev.pos (by rw [str_size]; omega) ?_))
    rw [bt_tb (n + q) _ i (by omega), bt_tb (n + q) _ i (by omega)]
    have e := ih (i + 1) (by omega)
    have hc := Rs.cnt_le i (fun j => wd n q f j + wd n q g j)
    rw [cnt_snoc] at e
    rw [w64 (n := (i : Int) + 1) (by omega) (by omega), w64 (by omega) (by omega)]
    by_cases h : wd n q f i = wd n q g i
    · rw [if_pos (show wd n q f i + wd n q g i = 0 by rw [h, Rs.GF.add_self]), Nat.add_zero] at e
      exact Ev.pos (by rw [h]) e
    · rw [if_neg (Rs.GF.add_ne h)] at e
      exact Ev.neg (fun e => h (Rs.GF.ext (by omega))) e
theorem apart_big (n q : Nat) (f : PS) (x : ByteArray) (hx : n ≤ x.size) (hn : 0 < n) (hq : q ≤ 64) (hN : n + q ≤ 255) :
    Ev (fun k => silversidelaw03_LabelApart.l0 k (strOfNums (tb n f)) x (q : Int)) true := by
  refine Ev.step (f := fun k => _) (fun k => by rw [silversidelaw03_LabelApart.l0]) ?_
  obtain ⟨g, hg⟩ := cut_str x n hx
  rw [str_size]
  refine Ev.neg (by omega) (Ev.pos (by omega) (Ev.pos (by omega) ?_))
  rw [Int.toNat_natCast, hg]
  refine Ev.bind (EncodeG n q f hn hq hN) (Ev.bind (EncodeG n q g hn hq hN) (Ev.pos rfl (Ev.pos rfl ?_)))
  rw [str_size, w64 (by omega) (by omega)]
  refine Ev.pos (by omega) ?_
  rw [str_size]
  refine Ev.step (f := fun k => _) (fun k => by rw [silversidelaw03_LabelApart.j1]) ?_
  refine Ev.neg (by simp) ?_
  exact apart_l1 n q f g hn hq hN (n + q) 0 (by omega)
theorem LabelApart : silversidelaw03_LabelApart.Pure := by
  intro s0 x p hs0 hx0 _
  refine Ev.rounds (g := fun k => silversidelaw03_LabelApart.f k s0 x p) ?_
  unfold silversidelaw03_LabelApart.f
  obtain ⟨n, q, f, h1, h2, h3, h4, hf⟩ := fitG s0 p 100 (by omega) (by omega)
  refine Ev.bind hf ?_
  by_cases h : n ≤ x.size
  · exact apart_big n q f x h h1 h4 h3
  · refine Ev.step (f := fun k => _) (fun k => by rw [silversidelaw03_LabelApart.l0]) ?_
    have e : ((strOfNums (tb n f)).extract x.size n).size = n - x.size := by rw [ByteArray.size_extract, str_size, Nat.min_self]
    rw [str_size, Int.toNat_natCast]
    refine Ev.pos (by omega) (Ev.pos (by omega) (Ev.pos (by omega) (Ev.pos (by rw [e]; omega) ?_)))
    exact apart_big n q f _ (by rw [ByteArray.size_append, e]; omega) h1 h4 h3
end Go.Proofs.Ytdgjanjoiabgfaa.Pure
