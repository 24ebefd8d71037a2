/- LabelFills: lost and changed positions that the check bytes suffice for are mended; no condition. -/
import Derived.Test.YtdgjanjoiabgfaaQ21
import Derived.Test.YtdgjanjoiabgfaaQ18
import Derived.Test.YtdgjanjoiabgfaaUM
namespace Go.Proofs.Ytdgjanjoiabgfaa.Pure
open Go.RowKit Go.Proofs.Ytdgjanjoiabgfaa.Q Go.Proofs.YtdgjanjoiabgfaaW.PrintWords Go.Proofs.YtdgjanjoiabgfaaW.PrintLast Go.Proofs.YtdgjanjoiabgfaaW.PrintMore
set_option linter.unusedVariables false
set_option linter.unusedSimpArgs false
open Rs (PS GF hv wd cnt tl)
open Rs.GF (al)
/-! ### LabelFills -/
theorem has_list (L : List Int) (x : Int) (hL : L.length ≤ 10000) : Ev (fun k => silversideref03_Has.f k L x) (decide (x ∈ L)) := Ev.of (fun k => silversideref03_Has.mono _ _ k) (has_some L x hL)
theorem dis_sub (r : List Nat) : ∀ out, (∀ i, i ∈ r → i ∈ out) → dis r out = out := by
  induction r with
  | nil => intro out _; rfl
  | cons i r ih => intro out h; unfold dis; rw [if_pos (h i (by simp))]; exact ih out (fun j hj => h j (by simp [hj]))
theorem dis_all (l : List Nat) : ∀ out, (out ++ l).Nodup → dis l out = out ++ l := by
  induction l with
  | nil => intro out _; simp [dis]
  | cons i l ih =>
    intro out h
    have hi : i ∉ out := fun hi => (List.nodup_append.1 h).2.2 i hi i (by simp) rfl
    unfold dis
    rw [if_neg hi, ih (out ++ [i]) (by simpa using h)]; simp
theorem dis_append (a b : List Nat) : ∀ out, dis (a ++ b) out = dis b (dis a out) := by
  induction a with
  | nil => intro out; rfl
  | cons i a ih =>
    intro out
    show (if i ∈ out then dis (a ++ b) out else dis (a ++ b) (out ++ [i])) = dis b (if i ∈ out then dis a out else dis a (out ++ [i]))
    split <;> exact ih _
theorem dis_named (l r : List Nat) (hn : l.Nodup) (h : ∀ i, i ∈ r → i ∈ l) : dis (l ++ r) [] = l := by
  rw [dis_append, dis_all l [] (by simpa using hn), List.nil_append]; exact dis_sub r l h
/-- what Decode answers of the word with the named places -/
theorem fills_end (n q : Nat) (f w1 w2 : PS) (L A r : List Nat) (n2 : n + q ≤ 255) (q1 : q ≤ 64) (n0 : 0 < n) (h1 : Spoils (n + q) (wd n q f) w1 L q) (h2 : Spoils (n + q) w1 w2 A ((q - L.length) / 2)) (hA : ∀ i, i ∈ A → i ∉ L) (hr : ∀ i, i ∈ r → i ∈ L) (hlen : (L ++ r).length ≤ 255) :
    Ev (fun k => label_Decode.f k (strOfNums (tb (n + q) w2)) (q : Int) (ql (L ++ r))) (strOfNums (tb n f), ((L.length + A.length : Nat) : Int), 0) := by
  have hmem : ∀ j, j ∈ L ++ r ↔ j ∈ L := fun j => ⟨fun h => (List.mem_append.1 h).elim id (hr j), fun h => List.mem_append.2 (.inl h)⟩
  have e1 : ∀ j, j < n + q → j ∉ L → w1 j = wd n q f j := fun j hj hL => by
    by_cases e : w1 j + wd n q f j = 0
    · exact Rs.GF.add_eq_zero e
    · exact absurd ((h1.ne j hj).1 e) hL
  have e2 : ∀ j, j < n + q → j ∉ A → w2 j = w1 j := fun j hj hL => by
    by_cases e : w2 j + w1 j = 0
    · exact Rs.GF.add_eq_zero e
    · exact absurd ((h2.ne j hj).1 e) hL
  have c1 : cnt (n + q) (oth (L ++ r) (fun j => w2 j + wd n q f j)) = A.length := cnt_mem A _ _ h2.nd h2.lt (fun j hj => by
    unfold oth
    by_cases hL : j ∈ L
    · rw [if_pos ((hmem j).2 hL)]
      exact ⟨fun h => absurd rfl h, fun h => absurd hL (hA j h)⟩
    · rw [if_neg (fun h => hL ((hmem j).1 h))]
      show (w2 j + wd n q f j ≠ 0 ↔ j ∈ A)
      rw [← e1 j hj hL]
      exact h2.ne j hj)
  have c2 : cnt (n + q) (fun j => w2 j + wd n q f j) = (L ++ A).length := cnt_mem (L ++ A) _ _ (List.nodup_append.2 ⟨h1.nd, h2.nd, fun a ha b hb e => hA b hb (e ▸ ha)⟩)
    (fun i hi => (List.mem_append.1 hi).elim (h1.lt i) (h2.lt i)) (fun j hj => by
    rw [List.mem_append]
    show (w2 j + wd n q f j ≠ 0 ↔ j ∈ L ∨ j ∈ A)
    by_cases hL : j ∈ L
    · rw [e2 j hj (fun h => hA j h hL), h1.ne j hj]
      exact ⟨.inl, fun _ => hL⟩
    · rw [← e1 j hj hL, h2.ne j hj]
      exact ⟨.inr, fun h => h.resolve_left hL⟩)
  have hle := h1.le
  have hle2 := h2.le
  have hD := DecodeMends (n + q) q w2 (wd n q f) (L ++ r) n2 q1 (by omega) hlen (fun i hi => h1.lt i ((hmem i).1 hi)) (Rs.wd_code n q f) (by
    rw [c1, dis_named L r h1.nd hr]; omega)
  rw [c2, List.length_append, Nat.add_sub_cancel, wd_data] at hD
  exact hD
/-- what stands behind the list of the named places -/
def fillsEnd (k : Nat) (x0 : ByteArray) (x1 : Int) (x12 : List Int) (x15 : ByteArray) (x16 x17 : List Int) : Option Bool :=
  (label_Decode.f k x15 x1 x17).bind fun bt => (if bt.2.2 = 0 then (if bt.1.toList = x0.toList then (if bt.2.1 = (wrap64 ((x12.length : Int) + (x16.length : Int))) then ((silversidelaw03_awake.f k).bind fun t => (some t)) else (some false)) else (some false)) else (some false))
theorem fillsEndG (n q : Nat) (f w1 w2 : PS) (L A r : List Nat) (n2 : n + q ≤ 255) (q1 : q ≤ 64) (n0 : 0 < n) (h1 : Spoils (n + q) (wd n q f) w1 L q) (h2 : Spoils (n + q) w1 w2 A ((q - L.length) / 2)) (hA : ∀ i, i ∈ A → i ∉ L) (hr : ∀ i, i ∈ r → i ∈ L) (hlen : (L ++ r).length ≤ 255) :
    Ev (fun k => fillsEnd k (strOfNums (tb n f)) (q : Int) (ql L) (strOfNums (tb (n + q) w2)) (ql A) (ql (L ++ r))) true := by
  unfold fillsEnd
  refine Ev.bind (fills_end n q f w1 w2 L A r n2 q1 n0 h1 h2 hA hr hlen) (Ev.pos rfl (Ev.pos rfl (Ev.pos ?_ awake_end)))
  have := h1.le
  have := h2.le
  show ((L.length + A.length : Nat) : Int) = wrap64 (((ql L).length : Int) + ((ql A).length : Int))
  rw [ql_length, ql_length, w64 (by omega) (by omega)]; omega
theorem fills_l1 (n q : Nat) (f w1 w2 : PS) (L A : List Nat) (n2 : n + q ≤ 255) (q1 : q ≤ 64) (n0 : 0 < n) (h1 : Spoils (n + q) (wd n q f) w1 L q) (h2 : Spoils (n + q) w1 w2 A ((q - L.length) / 2)) (hA : ∀ i, i ∈ A → i ∉ L) (m : Nat) : ∀ (i : Nat) (r : List Nat), i + m = L.length → r.length ≤ i → (∀ j, j ∈ r → j ∈ L) →
    Ev (fun k => silversidelaw03_LabelFills.l1 k (strOfNums (tb n f)) (q : Int) (ql L) (strOfNums (tb (n + q) w2)) (ql A) (ql (L ++ r)) (i : Int)) true := by
  have hq := h1.le
  induction m with
  | zero =>
    intro i r hi hr hs
    refine Ev.step (f := fun k => _) (fun k => by rw [silversidelaw03_LabelFills.l1]) ?_
    refine Ev.neg (by rw [ql_length]; omega) ?_
    exact fillsEndG n q f w1 w2 L A r n2 q1 n0 h1 h2 hA hs (by rw [List.length_append]; omega)
  | succ m ih =>
    intro i r hi hr hs
    refine Ev.step (f := fun k => _) (fun k => by rw [silversidelaw03_LabelFills.l1]) ?_
    rw [ql_length, ql_length, List.length_append, w64 (n := (L.length : Int) - 1) (by omega) (by omega), w64 (n := (L.length : Int) - 1 - i) (by omega) (by omega), w64 (n := (i : Int) + 1) (by omega) (by omega)]
    have hb : L.length - 1 - i < L.length := by omega
    refine Ev.pos (by omega) (Ev.pos (by omega) (Ev.pos (by omega) (Ev.pos (by omega) (Ev.pos (by omega) ?_))))
    rw [show (L.length : Int) - 1 - (i : Int) = ((L.length - 1 - i : Nat) : Int) from by omega, ql_rd L _ hb, ql_snoc, List.append_assoc]
    have e := ih (i + 1) (r ++ [L[L.length - 1 - i]]) (by omega) (by rw [List.length_append]; simp; omega) (fun j hj => by
      rcases List.mem_append.1 hj with h | h
      · exact hs j h
      · obtain rfl := List.mem_singleton.1 h
        exact List.getElem_mem hb)
    exact e
/-- what stands behind the list of the free changes -/
theorem fills_l0 (n q : Nat) (f w1 : PS) (L : List Nat) (n2 : n + q ≤ 255) (q1 : q ≤ 64) (n0 : 0 < n) (h1 : Spoils (n + q) (wd n q f) w1 L q) (l : List S47) (hl : l.length ≤ 8796093022208) (hb : ∀ x, x ∈ l → 0 ≤ x.f1 ∧ x.f1 ≤ 255) (m : Nat) : ∀ (i : Nat) (F : List S47), i + m = l.length → F.length ≤ i →
    (∀ x, x ∈ F → 0 ≤ x.f1 ∧ x.f1 ≤ 255) → (∀ x (i : Nat), x ∈ F → silversidelaw03_mod.f x.f0 ((n + q : Nat) : Int) = some (i : Int) → i ∉ L) →
    Ev (fun k => silversidelaw03_LabelFills.l0 k (strOfNums (tb n f)) (q : Int) l (strOfNums (tb (n + q) (wd n q f))) (strOfNums (tb (n + q) w1)) (ql L) F (i : Int)) true := by
  have hq := h1.le
  induction m with
  | zero =>
    intro i F hi hF hFb hFm
    refine Ev.step (f := fun k => _) (fun k => by rw [silversidelaw03_LabelFills.l0]) ?_
    refine Ev.neg (by omega) ?_
    rw [ql_length, w64 (n := (q : Int) - L.length) (by omega) (by omega), show (q : Int) - (L.length : Int) = ((q - L.length : Nat) : Int) from by omega, half_of _ (by omega)]
    obtain ⟨w2, A, hs, hS, hA⟩ := spoiltG (n + q) ((q - L.length) / 2) w1 (by omega) (by omega) (by omega) (fun i => i ∉ L) F hFb hFm
    refine Ev.bind' hs (Ev.pos (by simp; omega) ?_)
    have e := fills_l1 n q f w1 w2 L A n2 q1 n0 h1 hS hA L.length 0 [] (by omega) (by simp) (by simp)
    rw [List.append_nil] at e
    exact e
  | succ m ih =>
    intro i F hi hF hFb hFm
    have hil : i < l.length := by omega
    refine Ev.step (f := fun k => _) (fun k => by rw [silversidelaw03_LabelFills.l0]) ?_
    have hx : rd_T47 l (i : Int) ∈ l := by
      unfold rd_T47; rw [Int.toNat_natCast, List.getD_eq_getElem?_getD, List.getElem?_eq_getElem hil]; exact List.getElem_mem hil
    have w63 : wrap64 ((i : Int) + 1) = ((i + 1 : Nat) : Int) := by unfold wrap64; omega
    generalize rd_T47 l (i : Int) = x at hx
    obtain ⟨r, hr, hrn⟩ := modG x.f0 (n + q) (by omega) (by omega)
    rw [w63]
    refine Ev.pos (by omega) (Ev.pos (by omega) ?_)
    rw [str_size]
    refine Ev.bind' hr (Ev.bind (has_list (ql L) (r : Int) (by rw [ql_length]; omega)) ?_)
    by_cases h : r ∈ L
    · exact Ev.pos (decide_eq_true ((ql_mem r L).2 h)) (ih (i + 1) F (by omega) (by omega) hFb hFm)
    · refine Ev.neg (by simp [ql_mem, h]) (Ev.pos (by omega) ?_)
      refine ih (i + 1) (F ++ [x]) (by omega) (by rw [List.length_append]; simp; omega) (fun y hy => ?_) (fun y j hy hj => ?_)
      · rcases List.mem_append.1 hy with h | h
        · exact hFb y h
        · obtain rfl := List.mem_singleton.1 h
          exact hb y hx
      · rcases List.mem_append.1 hy with h' | h'
        · exact hFm y j h' hj
        · obtain rfl := List.mem_singleton.1 h'
          rw [hr] at hj
          injection hj with hj
          obtain rfl : r = j := by omega
          exact h
theorem LabelFills (a0 : ByteArray) (a1 : Int) (l2 l3 : List S47) (hb2 : ∀ x, x ∈ l2 → 0 ≤ x.f1 ∧ x.f1 ≤ 255) (hb3 : ∀ x, x ∈ l3 → 0 ≤ x.f1 ∧ x.f1 ≤ 255) (hl3 : l3.length ≤ 8796093022208) : ∃ k, silversidelaw03_LabelFills.f k a0 a1 l2 l3 = some true := by
  refine Ev.rounds (g := fun k => silversidelaw03_LabelFills.f k a0 a1 l2 l3) ?_
  unfold silversidelaw03_LabelFills.f
  obtain ⟨n, q, f, n0, n1, n2, q1, hf⟩ := fitG a0 a1 200 (by omega) (by omega)
  refine Ev.bind hf (Ev.bind (EncodeG n q f n0 q1 n2) (Ev.pos rfl ?_))
  have e : (((strOfNums (tb (n + q) (wd n q f))).size : Int) != wrap64 (((strOfNums (tb n f)).size : Int) + (q : Int))) = false := by
    rw [str_size, str_size, w64 (by omega) (by omega), bne_eq_false_iff_eq]; omega
  show Ev (fun k => silversidelaw03_LabelFills.j0 k (strOfNums (tb n f)) (q : Int) l2 l3 (strOfNums (tb (n + q) (wd n q f))) (((strOfNums (tb (n + q) (wd n q f))).size : Int) != wrap64 (((strOfNums (tb n f)).size : Int) + (q : Int)))) true
  rw [e]
  refine Ev.step (f := fun k => _) (fun k => by rw [silversidelaw03_LabelFills.j0]) ?_
  refine Ev.neg (by simp) ?_
  obtain ⟨w, L, hs, hS, _⟩ := spoiltG (n + q) q (wd n q f) (by omega) (by omega) (by omega) (fun _ => True) l2 hb2 (fun _ _ _ _ => trivial)
  refine Ev.bind' hs ?_
  exact fills_l0 n q f w L n2 q1 n0 hS l3 hl3 hb3 l3.length 0 [] (by omega) (by simp) (by simp) (by simp)
end Go.Proofs.Ytdgjanjoiabgfaa.Pure
