/- LabelNear: if Decode returns data, the codeword of that data is near and differs at as many places as it says; no condition. -/
import Derived.Test.YtdgjanjoiabgfaaQ25
import Derived.Test.YtdgjanjoiabgfaaQ23
import Derived.Test.YtdgjanjoiabgfaaQ18
import Derived.Test.YtdgjanjoiabgfaaQ24
import Derived.Test.YtdgjanjoiabgfaaUX
import Derived.Test.YtdgjanjoiabgfaaUY
namespace Go.Proofs.Ytdgjanjoiabgfaa.Pure
open Go.RowKit Go.Proofs.Ytdgjanjoiabgfaa.Q Go.Proofs.YtdgjanjoiabgfaaW.PrintWords Go.Proofs.YtdgjanjoiabgfaaW.PrintLast Go.Proofs.YtdgjanjoiabgfaaW.PrintMore
set_option linter.unusedVariables false
set_option linter.unusedSimpArgs false
open Rs (PS GF hv wd cnt)
open Rs.GF (al)
/-! ### the reference's Has, Different, IsNear -/
theorem has_l0 (L : List Nat) (x : Nat) (hL : L.length ≤ 10000) (m : Nat) : ∀ i, i + m = L.length → Ev (fun k => silversideref03_Has.l0 k (ql L) (x : Int) (i : Int)) (decide (x ∈ L.drop i)) := by
  induction m with
  | zero =>
    intro i hi
    refine Ev.step (f := fun k => _) (fun k => by rw [silversideref03_Has.l0]) ?_
    refine Ev.neg (by rw [ql_length]; omega) ?_
    rw [List.drop_eq_nil_of_le (by omega), decide_eq_false (by simp)]; exact Ev.now _
  | succ m ih =>
    intro i hi
    have hil : i < L.length := by omega
    refine Ev.step (f := fun k => _) (fun k => by rw [silversideref03_Has.l0]) ?_
    rw [ql_rd L i hil, List.drop_eq_getElem_cons hil]
    refine Ev.pos (by rw [ql_length]; omega) (Ev.pos (by omega) ?_)
    by_cases h : L[i] = x
    · rw [decide_eq_true (by simp [h])]; exact Ev.pos (by omega) (Ev.now _)
    · refine Ev.neg (by omega) ?_
      rw [w64 (by omega) (by omega), show decide (x ∈ L[i] :: L.drop (i + 1)) = decide (x ∈ L.drop (i + 1)) from decide_eq_decide.2 ⟨fun e => (List.mem_cons.1 e).resolve_left (fun e => h e.symm), fun e => List.mem_cons_of_mem _ e⟩]
      exact ih (i + 1) (by omega)
theorem hasG (L : List Nat) (x : Nat) (hL : L.length ≤ 10000) : Ev (fun k => silversideref03_Has.f k (ql L) (x : Int)) (decide (x ∈ L)) := by
  unfold silversideref03_Has.f; exact has_l0 L x hL L.length 0 (by omega)
theorem dif_l0 (L : List Nat) (hL : L.length ≤ 1000) (m : Nat) : ∀ i out, i + m = L.length → out.length ≤ i → Ev (fun k => silversideref03_Different.l0 k (ql L) (ql out) (i : Int)) (ql (dis (L.drop i) out)) := by
  induction m with
  | zero =>
    intro i out hi ho
    refine Ev.step (f := fun k => _) (fun k => by rw [silversideref03_Different.l0]) ?_
    refine Ev.neg (by rw [ql_length]; omega) ?_
    rw [List.drop_eq_nil_of_le (by omega)]; exact Ev.now _
  | succ m ih =>
    intro i out hi ho
    have hil : i < L.length := by omega
    refine Ev.step (f := fun k => _) (fun k => by rw [silversideref03_Different.l0]) ?_
    rw [ql_rd L i hil, List.drop_eq_getElem_cons hil]
    refine Ev.pos (by rw [ql_length]; omega) (Ev.pos (by omega) (Ev.bind (hasG out _ (by omega)) ?_))
    rw [w64 (by omega) (by omega), ql_snoc]
    show Ev _ (ql (if L[i] ∈ out then dis (L.drop (i + 1)) out else dis (L.drop (i + 1)) (out ++ [L[i]])))
    by_cases h : L[i] ∈ out
    · rw [if_pos h]; exact Ev.pos (decide_eq_true h) (ih (i + 1) out (by omega) (by omega))
    · rw [if_neg h]
      exact Ev.neg (by simp [h]) (Ev.pos (by rw [ql_length]; omega) (ih (i + 1) _ (by omega) (by rw [List.length_append]; simp; omega)))
theorem difG (L : List Nat) (hL : L.length ≤ 1000) : Ev (fun k => silversideref03_Different.f k (ql L)) (ql (dis L [])) := by
  unfold silversideref03_Different.f; exact dif_l0 L hL L.length 0 [] (by omega) (by simp)
theorem near_l0 (n p : Nat) (w o : PS) (L : List Nat) (g : Nat) (hn : n ≤ 1000) (hL : L.length ≤ 1000) (hg : g ≤ 1000) (h : g + 2 * cnt n (oth L (fun j => w j + o j)) ≤ p) (m : Nat) : ∀ i, i + m = n →
    Ev (fun k => silversideref03_IsNear.l0 k (tb n w) (tb n o) (p : Int) (ql L) ((g + 2 * cnt i (oth L (fun j => w j + o j)) : Nat) : Int) (i : Int)) true := by
  induction m with
  | zero =>
    intro i hi
    obtain rfl : i = n := by omega
    refine Ev.step (f := fun k => _) (fun k => by rw [silversideref03_IsNear.l0]) ?_
    refine Ev.neg (by rw [tb_length]; omega) ?_
    rw [decide_eq_true (by omega)]; exact Ev.now _
  | succ m ih =>
    intro i hi
    refine Ev.step (f := fun k => _) (fun k => by rw [silversideref03_IsNear.l0]) ?_
    refine Ev.pos (by rw [tb_length]; omega) (Ev.pos (by omega) (Ev.pos (by rw [tb_length]; omega) ?_))
    have e := ih (i + 1) (by omega)
    have hc := Rs.cnt_le i (oth L (fun j => w j + o j))
    rw [cnt_snoc] at e
    rw [tb_rd n w i (by omega), tb_rd n o i (by omega), w64 (n := (i : Int) + 1) (by omega) (by omega), w64 (n := ((g + 2 * cnt i (oth L (fun j => w j + o j)) : Nat) : Int) + 2) (by omega) (by omega)]
    by_cases hwo : w i = o i
    · have h0 : oth L (fun j => w j + o j) i = 0 := by
        show (if i ∈ L then (0 : GF) else w i + o i) = 0
        rw [hwo, Rs.GF.add_self]; split <;> rfl
      rw [if_pos h0, Nat.add_zero] at e
      exact Ev.pos (by rw [hwo]) e
    · refine Ev.neg (fun e => hwo (Rs.GF.ext (by omega))) (Ev.bind (hasG L i (by omega)) ?_)
      by_cases hi' : i ∈ L
      · have h0 : oth L (fun j => w j + o j) i = 0 := by unfold oth; rw [if_pos hi']
        rw [if_pos h0, Nat.add_zero] at e
        exact Ev.pos (decide_eq_true hi') e
      · have h0 : oth L (fun j => w j + o j) i ≠ 0 := by unfold oth; rw [if_neg hi']; exact Rs.GF.add_ne hwo
        rw [if_neg h0] at e
        refine Ev.neg (by simp [hi']) ?_
        rw [show ((g + 2 * cnt i (oth L (fun j => w j + o j)) : Nat) : Int) + 2 = ((g + 2 * (cnt i (oth L (fun j => w j + o j)) + 1) : Nat) : Int) from by omega]
        exact e
theorem oth_dis (L : List Nat) (f : PS) : oth (dis L []) f = oth L f := by
  funext j
  unfold oth
  have : j ∈ dis L [] ↔ j ∈ L := by rw [dis_mem]; simp
  by_cases h : j ∈ L
  · rw [if_pos h, if_pos (this.2 h)]
  · rw [if_neg h, if_neg (fun e => h (this.1 e))]
theorem isNearG (n p : Nat) (w o : PS) (L : List Nat) (hn : n ≤ 1000) (hp : p ≤ 64) (hL : L.length ≤ 1000) (hz : zB p (sy n o) = true) (h : (dis L []).length + 2 * cnt n (oth L (fun j => w j + o j)) ≤ p) :
    Ev (fun k => silversideref03_IsNear.f k (tb n w) (tb n o) (p : Int) (ql L)) true := by
  unfold silversideref03_IsNear.f
  refine Ev.pos (by rw [tb_length, tb_length]) (Ev.bind (refIsG n p o (by omega) (by omega)) ?_)
  rw [hz]
  refine Ev.step (f := fun k => _) (fun k => by rw [silversideref03_IsNear.j0]) ?_
  refine Ev.neg (by simp) (Ev.bind (difG L hL) ?_)
  rw [ql_length]
  exact near_l0 n p w o L _ hn hL (by omega) h n 0 (by omega)
open Rs (PS GF hv wd cnt)
open Rs.GF (al)
/-! ### LabelNear -/
theorem lnear_l2 (n p : Nat) (w o : PS) (L : List Nat) (hn : n ≤ 255) (hp : p ≤ 64) (hL : L.length ≤ 100) (hz : zB p (sy n o) = true) (h : (dis L []).length + 2 * cnt n (oth L (fun j => w j + o j)) ≤ p) (m : Nat) : ∀ i, i + m = n →
    Ev (fun k => silversidelaw03_LabelNear.l2 k (strOfNums (tb n w)) (p : Int) (ql L) (((cnt n (fun j => w j + o j) : Nat) : Int) - ((cnt i (fun j => w j + o j) : Nat) : Int)) (strOfNums (tb n o)) (i : Int)) true := by
  induction m with
  | zero =>
    intro i hi
    obtain rfl : i = n := by omega
    refine Ev.step (f := fun k => _) (fun k => by rw [silversidelaw03_LabelNear.l2]) ?_
    refine Ev.neg (by rw [str_size]; omega) (Ev.pos (by omega) ?_)
    exact Ev.bind (NumbersG i w (by omega)) (Ev.bind (NumbersG i o (by omega)) (Ev.bind (isNearG i p w o L (by omega) hp (by omega) hz h) (Ev.pos rfl awake_end)))
  | succ m ih =>
    intro i hi
    refine Ev.step (f := fun k => _) (fun k => by rw [silversidelaw03_LabelNear.l2]) ?_
    refine Ev.pos (by rw [str_size]; omega) (Ev.pos (by omega) (Ev.pos (by rw [str_size]; omega) ?_))
    rw [bt_tb n w i (by omega), bt_tb n o i (by omega)]
    have e := ih (i + 1) (by omega)
    have h1 := Rs.cnt_le i (fun j => w j + o j)
    have h2 := Rs.cnt_le n (fun j => w j + o j)
    rw [cnt_snoc] at e
    rw [w64 (n := (i : Int) + 1) (by omega) (by omega), w64 (n := ((cnt n (fun j => w j + o j) : Nat) : Int) - ((cnt i (fun j => w j + o j) : Nat) : Int) - 1) (by omega) (by omega)]
    by_cases hwo : w i = o i
    · rw [if_pos (show w i + o i = 0 by rw [hwo, Rs.GF.add_self]), Nat.add_zero] at e
      exact Ev.pos (by rw [hwo]) e
    · rw [if_neg (Rs.GF.add_ne hwo)] at e
      refine Ev.neg (fun e => hwo (Rs.GF.ext (by omega))) ?_
      rw [show ((cnt n (fun j => w j + o j) : Nat) : Int) - ((cnt i (fun j => w j + o j) : Nat) : Int) - 1 = ((cnt n (fun j => w j + o j) : Nat) : Int) - ((cnt i (fun j => w j + o j) + 1 : Nat) : Int) from by omega]
      exact e
theorem lnear_j2 (n p : Nat) (w : PS) (L : List Nat) (hn : n ≤ 120) (hp : p ≤ 16) (hpn : p < n) (hL : L.length ≤ 20) (hLn : ∀ i, i ∈ L → i < n) :
    Ev (fun k => silversidelaw03_LabelNear.j2 k (strOfNums (tb n w)) (p : Int) (ql L)) true := by
  refine Ev.step (f := fun k => _) (fun k => by rw [silversidelaw03_LabelNear.j2]) ?_
  have hD := DecodeG n p w L (by omega) (by omega) hpn (by omega) hLn
  have bad : ∀ r : ByteArray × Int × Int, r = (⟨#[]⟩, 0, 6) → Ev (fun k => if r.2.2 = 0 then ((label_Encode.f k r.1 (p : Int)).bind fun bt307 => (if bt307.2 = 0 then (silversidelaw03_LabelNear.j3 k (strOfNums (tb n w)) (p : Int) (ql L) r.2.1 bt307.1 ((bt307.1.size : Int) != ((strOfNums (tb n w)).size : Int))) else (silversidelaw03_LabelNear.j3 k (strOfNums (tb n w)) (p : Int) (ql L) r.2.1 bt307.1 true))) else (if r.1.toList = ([] : List UInt8) then (if r.2.1 = 0 then (if r.2.2 = 6 then ((silversidelaw03_awake.f k).bind fun t306 => (some t306)) else (some false)) else (some false)) else (some false))) true := by
    rintro r rfl
    exact Ev.neg (by simp) (Ev.pos (toList_nil.2 rfl) (Ev.pos rfl (Ev.pos rfl awake_end)))
  refine Ev.bind hD ?_
  by_cases h1 : (dis L []).length > p
  · exact bad _ (if_pos h1)
  rw [if_neg h1]
  unfold decRes
  by_cases h2 : 2 * cnt n (oth (dis L []) (fun j => w j + outf n p w (dis L []) j)) + (dis L []).length > p
  · exact bad _ (if_pos h2)
  rw [if_neg h2]
  by_cases h3 : zB p (sy n (outf n p w (dis L []))) = true
  · rw [if_pos h3]
    generalize outf n p w (dis L []) = o at h2 h3
    have hE := EncodeG (n - p) p o (by omega) (by omega) (by omega)
    rw [show n - p + p = n from by omega] at hE
    have hw : tb n (wd (n - p) p o) = tb n o := tb_congr fun j hj => Rs.same_data (n - p) p _ _ (by omega) (fun i hi => Rs.wd_code _ _ _ i hi) (fun i hi => by
      rw [show n - p + p = n from by omega]; exact (zB_iff _ _).1 h3 i hi) (fun j hj => by unfold wd; rw [if_pos hj]) j (by omega)
    rw [hw] at hE
    refine Ev.pos rfl (Ev.bind hE (Ev.pos rfl ?_))
    rw [str_size, str_size]
    refine Ev.step (f := fun k => _) (fun k => by rw [silversidelaw03_LabelNear.j3]) ?_
    refine Ev.neg (by simp) ?_
    rw [oth_dis] at h2
    have e := lnear_l2 n p w o L (by omega) (by omega) (by omega) h3 (by omega) n 0 (by omega)
    rw [show ((cnt 0 (fun j => w j + o j) : Nat) : Int) = 0 from rfl, Int.sub_zero] at e
    exact e
  · exact bad _ (if_neg h3)
theorem lnear_l1 (n p : Nat) (w : PS) (lost : List Int) (hn : n ≤ 120) (hp : p ≤ 16) (hpn : p < n) (m : Nat) : ∀ (L : List Nat), L.length + m = 20 → (∀ i, i ∈ L → i < n) →
    Ev (fun k => silversidelaw03_LabelNear.l1 k (strOfNums (tb n w)) (p : Int) lost (ql L) (L.length : Int)) true := by
  induction m with
  | zero =>
    intro L hL hLn
    refine Ev.step (f := fun k => _) (fun k => by rw [silversidelaw03_LabelNear.l1]) ?_
    have e := lnear_j2 n p w L hn hp hpn (by omega) hLn
    by_cases h : (L.length : Int) < (lost.length : Int)
    · exact Ev.pos h (Ev.neg (by omega) e)
    · exact Ev.neg h e
  | succ m ih =>
    intro L hL hLn
    refine Ev.step (f := fun k => _) (fun k => by rw [silversidelaw03_LabelNear.l1]) ?_
    by_cases h : (L.length : Int) < (lost.length : Int)
    · obtain ⟨r, hr, hrn⟩ := modG (rd lost (L.length : Int)) n (by omega) (by omega)
      refine Ev.pos h (Ev.pos (by omega) (Ev.pos (by omega) ?_))
      rw [str_size]
      refine Ev.bind' hr (Ev.pos (by rw [ql_length]; omega) ?_)
      rw [ql_snoc, w64 (by omega) (by omega)]
      have e := ih (L ++ [r]) (by rw [List.length_append]; simp; omega) (fun i hi => by
        rcases List.mem_append.1 hi with hi | hi
        · exact hLn i hi
        · have : i = r := by simpa using hi
          omega)
      rw [show ((L ++ [r]).length : Int) = (L.length : Int) + 1 from by rw [List.length_append]; simp] at e
      exact e
    · exact Ev.neg h (lnear_j2 n p w L hn hp hpn (by omega) hLn)
theorem lnear_l0 (p : Nat) (lost : List Int) (hp : p ≤ 16) (m : Nat) : ∀ (s : ByteArray), s.size ≤ 120 → 17 ≤ s.size + m → Ev (fun k => silversidelaw03_LabelNear.l0 k s (p : Int) lost) true := by
  have big : ∀ s : ByteArray, s.size ≤ 120 → p < s.size → Ev (fun k => silversidelaw03_LabelNear.l0 k s (p : Int) lost) true := by
    intro s h1 h2
    refine Ev.step (f := fun k => _) (fun k => by rw [silversidelaw03_LabelNear.l0]) ?_
    refine Ev.neg (by omega) ?_
    obtain ⟨w, hw⟩ := str_of s
    generalize s.size = n at hw h1 h2
    subst hw
    exact lnear_l1 n p w lost h1 hp h2 20 [] (by simp) (by simp)
  induction m with
  | zero => intro s h1 h2; exact big s h1 (by omega)
  | succ m ih =>
    intro s h1 h2
    by_cases h : p < s.size
    · exact big s h1 h
    · refine Ev.step (f := fun k => _) (fun k => by rw [silversidelaw03_LabelNear.l0]) ?_
      refine Ev.pos (by omega) (Ev.pos (by omega) ?_)
      have e : (s ++ (⟨#[97]⟩ : ByteArray)).size = s.size + 1 := by rw [ByteArray.size_append]; rfl
      exact ih _ (by omega) (by omega)
theorem LabelNear : silversidelaw03_LabelNear.Pure := by
  intro s p lost hs _ _ _ _
  refine Ev.rounds (g := fun k => silversidelaw03_LabelNear.f k s p lost) ?_
  unfold silversidelaw03_LabelNear.f
  obtain ⟨q, hq, hq'⟩ := modG p 17 (by omega) (by omega)
  refine Ev.bind' hq ?_
  have e : mn (s.size : Int) 120 = ((min s.size 120 : Nat) : Int) := by unfold mn; split <;> omega
  rw [e, Int.toNat_natCast]
  refine Ev.pos (by omega) (Ev.pos (by omega) ?_)
  exact lnear_l0 q lost (by omega) 17 _ (by rw [ByteArray.size_extract]; omega) (by omega)
end Go.Proofs.Ytdgjanjoiabgfaa.Pure
