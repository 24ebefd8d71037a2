/- LabelMends: if at most half as many bytes of a codeword are changed as there are check bytes, Decode recovers the data and tells how many; no condition. -/
import Derived.Test.YtdgjanjoiabgfaaQ20
import Derived.Test.YtdgjanjoiabgfaaUM
namespace Go.Proofs.Ytdgjanjoiabgfaa.Pure
open Go.RowKit Go.Proofs.Ytdgjanjoiabgfaa.Q Go.Proofs.YtdgjanjoiabgfaaW.PrintWords Go.Proofs.YtdgjanjoiabgfaaW.PrintLast Go.Proofs.YtdgjanjoiabgfaaW.PrintMore
set_option linter.unusedVariables false
set_option linter.unusedSimpArgs false
open Rs (PS GF hv wd cnt tl)
open Rs.GF (al)
/-! ### LabelMends -/
theorem LabelMends (a0 : ByteArray) (a1 : Int) (l : List S47) (hb : ∀ x, x ∈ l → 0 ≤ x.f1 ∧ x.f1 ≤ 255) : ∃ k, silversidelaw03_LabelMends.f k a0 a1 l = some true := by
  refine Ev.rounds (g := fun k => silversidelaw03_LabelMends.f k a0 a1 l) ?_
  unfold silversidelaw03_LabelMends.f
  obtain ⟨n, q, f, n0, n1, n2, q1, hf⟩ := fitG a0 a1 200 (by omega) (by omega)
  refine Ev.bind hf (Ev.bind (EncodeG n q f n0 q1 n2) (Ev.pos rfl ?_))
  have e : (((strOfNums (tb (n + q) (wd n q f))).size : Int) != wrap64 (((strOfNums (tb n f)).size : Int) + (q : Int))) = false := by
    rw [str_size, str_size, w64 (by omega) (by omega), bne_eq_false_iff_eq]; omega
  show Ev (fun k => silversidelaw03_LabelMends.j0 k (strOfNums (tb n f)) (q : Int) l (strOfNums (tb (n + q) (wd n q f))) (((strOfNums (tb (n + q) (wd n q f))).size : Int) != wrap64 (((strOfNums (tb n f)).size : Int) + (q : Int)))) true
  rw [e]
  refine Ev.step (f := fun k => _) (fun k => by rw [silversidelaw03_LabelMends.j0]) ?_
  refine Ev.neg (by simp) ?_
  rw [half_of q (by omega)]
  obtain ⟨w, L, hs, hS, _⟩ := spoiltG (n + q) (q / 2) (wd n q f) (by omega) (by omega) (by omega) (fun _ => True) l hb (fun _ _ _ _ => trivial)
  refine Ev.bind' hs ?_
  have hcnt : cnt (n + q) (fun j => w j + wd n q f j) = L.length := cnt_mem L _ _ hS.nd hS.lt hS.ne
  have ho : oth [] (fun j => w j + wd n q f j) = fun j => w j + wd n q f j := funext fun j => by unfold oth; rw [if_neg (by simp)]
  have hD := DecodeMends (n + q) q w (wd n q f) [] n2 q1 (by omega) (by simp) (fun i hi => by simp at hi) (Rs.wd_code n q f) (by
    rw [ho, hcnt]; have := hS.le; show 0 + _ ≤ _; omega)
  rw [hcnt, Nat.add_sub_cancel, wd_data] at hD
  refine Ev.bind hD (Ev.pos rfl (Ev.pos rfl (Ev.pos ?_ awake_end)))
  show ((L.length : Nat) : Int) = ((ql L).length : Int)
  rw [ql_length]
end Go.Proofs.Ytdgjanjoiabgfaa.Pure
