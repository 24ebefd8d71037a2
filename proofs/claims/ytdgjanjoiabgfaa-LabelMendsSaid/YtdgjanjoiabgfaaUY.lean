/- What fit and mod hand back, and what Decode comes to. -/
import Derived.Test.YtdgjanjoiabgfaaQ7
import Derived.Test.YtdgjanjoiabgfaaQ7
import Derived.Test.YtdgjanjoiabgfaaQ4
import Derived.Test.YtdgjanjoiabgfaaQ6
import Derived.Test.YtdgjanjoiabgfaaQ7
import Derived.Test.YtdgjanjoiabgfaaQ5
import Derived.Test.YtdgjanjoiabgfaaQ4
import Derived.Test.YtdgjanjoiabgfaaQ17
import Derived.Test.YtdgjanjoiabgfaaQ16
import Derived.Test.YtdgjanjoiabgfaaU
namespace Go.Proofs.Ytdgjanjoiabgfaa.Pure
open Go.RowKit Go.Proofs.Ytdgjanjoiabgfaa.Q Go.Proofs.YtdgjanjoiabgfaaW.PrintWords Go.Proofs.YtdgjanjoiabgfaaW.PrintLast Go.Proofs.YtdgjanjoiabgfaaW.PrintMore
set_option linter.unusedVariables false
set_option linter.unusedSimpArgs false
open Rs (PS GF hv wd cnt)
/-! ### fit and mod -/
theorem modG (a : Int) (b : Nat) (hb : 0 < b) (hb' : b ≤ 100000) : ∃ r : Nat, silversidelaw03_mod.f a (b : Int) = some (r : Int) ∧ r < b := by
  unfold silversidelaw03_mod.f
  have e1 : IntKind.u64.wrap (b : Int) = b := by rw [IntKind.wrap_u64]; omega
  have e2 : 0 ≤ IntKind.u64.wrap a := by rw [IntKind.wrap_u64]; omega
  rw [e1, if_neg (by omega), Int.tmod_eq_emod_of_nonneg e2]
  generalize IntKind.u64.wrap a = x at *
  have h1 : 0 ≤ x % (b : Int) := Int.emod_nonneg _ (by omega)
  have h2 : x % (b : Int) < b := Int.emod_lt_of_pos _ (by omega)
  refine ⟨(x % (b : Int)).toNat, ?_, by omega⟩
  rw [w64 (by omega) (by omega)]
  congr 1; omega
theorem toList_nil {s : ByteArray} : s.toList = ([] : List UInt8) ↔ s.size = 0 := by
  rw [Go.ByteArray.toList_eq]
  show s.data.toList = [] ↔ s.data.size = 0
  rw [Array.toList_eq_nil_iff, Array.size_eq_zero_iff]
theorem cut_str (s : ByteArray) (n : Nat) (h : n ≤ s.size) : ∃ f, s.extract 0 n = strOfNums (tb n f) := by
  obtain ⟨f, hf⟩ := str_of (s.extract 0 n)
  have e : (s.extract 0 n).size = n := by rw [ByteArray.size_extract]; omega
  rw [e] at hf
  exact ⟨f, hf⟩
theorem fit_tail (s : ByteArray) (q most : Nat) (hq : q ≤ 64) (hm : 0 < most) (hm' : most ≤ 200) : ∃ n f, 0 < n ∧ n ≤ most ∧ n + q ≤ 255 ∧
    (if s.toList = ([] : List UInt8) then (if 0 ≤ (mn 1 (mn (most : Int) (wrap64 (255 - (q : Int))))) then (if (mn 1 (mn (most : Int) (wrap64 (255 - (q : Int))))) ≤ 1 then (some ((⟨#[120]⟩ : ByteArray).extract 0 ((mn 1 (mn (most : Int) (wrap64 (255 - (q : Int))))) : Int).toNat, (q : Int))) else (none)) else (none)) else (if 0 ≤ (mn (s.size : Int) (mn (most : Int) (wrap64 (255 - (q : Int))))) then (if (mn (s.size : Int) (mn (most : Int) (wrap64 (255 - (q : Int))))) ≤ (s.size : Int) then (some (s.extract 0 ((mn (s.size : Int) (mn (most : Int) (wrap64 (255 - (q : Int))))) : Int).toNat, (q : Int))) else (none)) else (none))) = some (strOfNums (tb n f), (q : Int)) := by
  rw [w64 (by omega) (by omega)]
  obtain ⟨b, hb, b1, b2, b3⟩ : ∃ b : Nat, mn (most : Int) (255 - (q : Int)) = b ∧ 0 < b ∧ b ≤ most ∧ b + q ≤ 255 := by
    unfold mn
    split
    · exact ⟨255 - q, by omega, by omega, by omega, by omega⟩
    · exact ⟨most, rfl, by omega, by omega, by omega⟩
  rw [hb]
  by_cases h : s.toList = []
  · rw [if_pos h]
    have e : mn 1 (b : Int) = 1 := by unfold mn; rw [if_neg (by omega)]
    rw [e, if_pos (by omega), if_pos (by omega)]
    obtain ⟨f, hf⟩ := cut_str ⟨#[120]⟩ 1 (Nat.le_refl _)
    exact ⟨1, f, by omega, by omega, by omega, by rw [← hf]; rfl⟩
  · rw [if_neg h]
    have hs : s.size ≠ 0 := fun e => h (toList_nil.2 e)
    obtain ⟨n, hn, n1, n2, n3⟩ : ∃ n : Nat, mn (s.size : Int) (b : Int) = n ∧ 0 < n ∧ n ≤ s.size ∧ n ≤ b := by
      unfold mn
      split
      · exact ⟨b, rfl, by omega, by omega, by omega⟩
      · exact ⟨s.size, rfl, by omega, by omega, by omega⟩
    rw [hn, if_pos (by omega), if_pos (by omega), Int.toNat_natCast]
    obtain ⟨f, hf⟩ := cut_str s n n2
    exact ⟨n, f, n1, by omega, by omega, by rw [hf]⟩
theorem fitG (s : ByteArray) (p : Int) (most : Nat) (hm : 0 < most) (hm' : most ≤ 200) : ∃ n q f, 0 < n ∧ n ≤ most ∧ n + q ≤ 255 ∧ q ≤ 64 ∧ Ev (fun k => silversidelaw03_fit.f k s p (most : Int)) (strOfNums (tb n f), (q : Int)) := by
  unfold silversidelaw03_fit.f
  by_cases h : p < 0 ∨ p > 64
  · obtain ⟨q, hq, hq'⟩ := modG p 65 (by omega) (by omega)
    obtain ⟨n, f, h1, h2, h3, h4⟩ := fit_tail s q most (by omega) hm hm'
    refine ⟨n, q, f, h1, h2, h3, by omega, ?_⟩
    have e : Ev (fun k => silversidelaw03_fit.j0 k s p (most : Int) true) (strOfNums (tb n f), (q : Int)) := by
      refine Ev.step (f := fun k => _) (fun k => by rw [silversidelaw03_fit.j0]) ?_
      refine Ev.pos rfl (Ev.bind' hq ?_)
      exact ⟨0, fun _ _ => h4⟩
    by_cases h0 : p < 0
    · exact Ev.pos h0 e
    · rw [decide_eq_true (show p > 64 by omega)]; exact Ev.neg h0 e
  · obtain ⟨q, rfl⟩ := Int.eq_ofNat_of_zero_le (show 0 ≤ p by omega)
    obtain ⟨n, f, h1, h2, h3, h4⟩ := fit_tail s q most (by omega) hm hm'
    refine ⟨n, q, f, h1, h2, h3, by omega, ?_⟩
    rw [decide_eq_false (show ¬ (q : Int) > 64 by omega)]
    refine Ev.neg (by omega) ?_
    refine Ev.step (f := fun k => _) (fun k => by rw [silversidelaw03_fit.j0]) ?_
    exact Ev.neg (by simp) ⟨0, fun _ _ => h4⟩
theorem cnt_snoc (n : Nat) (f : PS) : cnt (n + 1) f = cnt n f + (if f n = 0 then 0 else 1) := by
  rw [Rs.cnt_split 1 n f]; rfl
theorem MulG (a b : GF) : label_Mul.f ((a.v : Nat) : Int) ((b.v : Nat) : Int) = some (((a * b).v : Nat) : Int) := MulT a.v_lt b.v_lt
theorem of_u8 {a : Int} (h : (Lit.int .u8 a).wf = true) : ∃ x : GF, a = ((x.v : Nat) : Int) := by
  obtain ⟨n, rfl, hn⟩ := nat_of_u8 h
  exact ⟨Rs.GF.mk n hn, rfl⟩
open Rs (PS GF hv gen nx en cut wd cv st sh tl loc dl dv ev cnt)
open Rs.GF (al)
/-! ### locator, slope, eval -/
/-- positions as numbers of the program -/
def ql (L : List Nat) : List Int := L.map fun (i : Nat) => (i : Int)
theorem ql_length (L : List Nat) : (ql L).length = L.length := by simp [ql]
theorem ql_rd (L : List Nat) (i : Nat) (h : i < L.length) : rd (ql L) (i : Int) = (L[i] : Int) := by
  unfold rd ql; rw [Int.toNat_natCast, List.getD_eq_getElem?_getD, List.getElem?_map, List.getElem?_eq_getElem h]; rfl
/-- the field elements of positions in a word of n elements -/
def pl (n : Nat) (L : List Nat) : List GF := L.map fun i => al (n - 1 - i)
def locR (n : Nat) : List Nat → PS → PS
  | [], f => f
  | i :: L, f => locR n L (st (al (n - 1 - i)) f)
theorem locR_cv (n : Nat) (L : List Nat) : ∀ f k, locR n L f k = cv k (loc (pl n L)) f := by
  induction L with
  | nil => intro f k; exact (Rs.cv_dl k f).symm
  | cons i L ih =>
    intro f k
    show locR n L (st (al (n - 1 - i)) f) k = cv k (st (al (n - 1 - i)) (loc (pl n L))) f
    rw [ih, Rs.cv_st, Rs.cv_st']
theorem locR_loc (n : Nat) (L : List Nat) : ∀ k, locR n L dl k = loc (pl n L) k := by
  intro k; rw [locR_cv, Rs.cv_comm, Rs.cv_dl]
theorem st_step (X : GF) (g : Nat) (f : PS) (h : ∀ k, g < k → f k = 0) (j : Nat) : cv j (cut (g + 1) f) (cut 2 (fun j => if j = 0 then 1 else X)) = st X f j := by
  rw [Rs.cut_deg (g + 1) f (fun k hk => h k (by omega)), Rs.cv_comm, cv_two, Rs.GF.one_mul]; rfl
theorem locator_l0 (n : Nat) (L : List Nat) (hn : n ≤ 255) (hL : ∀ i, i ∈ L → i < n) (hl : L.length ≤ 255) (m : Nat) : ∀ (i : Nat) (f : PS), i + m = L.length → (∀ k, i < k → f k = 0) →
    Ev (fun k => label_locator.l0 k (n : Int) (tb (i + 1) f) (ql L) (L.length : Int) (i : Int)) (tb (L.length + 1) (locR n (L.drop i) f)) := by
  induction m with
  | zero =>
    intro i f hi hf
    obtain rfl : i = L.length := by omega
    refine Ev.step (f := fun k => _) (fun k => by rw [label_locator.l0]) ?_
    refine Ev.neg (by omega) ?_
    rw [List.drop_length]; exact Ev.now _
  | succ m ih =>
    intro i f hi hf
    have hil : i < L.length := by omega
    have hin := hL L[i] (List.getElem_mem hil)
    refine Ev.step (f := fun k => _) (fun k => by rw [label_locator.l0]) ?_
    refine Ev.pos (by omega) (Ev.pos (by omega) (Ev.pos (by rw [ql_length]; omega) ?_))
    rw [ql_rd L i hil, w64 (n := (n : Int) - 1) (by omega) (by omega), w64 (by omega) (by omega), show (n : Int) - 1 - (L[i] : Int) = ((n - 1 - L[i] : Nat) : Int) from by omega]
    refine Ev.bind' (expG _ (by omega)) ?_
    have e := timesG (i + 1) 2 (i + 2) f (fun j => if j = 0 then 1 else al (n - 1 - L[i])) (by omega) (by omega) (by omega)
    rw [tb_congr (n := i + 2) (f := fun j => cv j (cut (i + 1) f) (cut 2 (fun j => if j = 0 then 1 else al (n - 1 - L[i])))) (g := st (al (n - 1 - L[i])) f) (fun j _ => st_step _ i f hf j)] at e
    refine Ev.bind' (a := tb (i + 2) (st (al (n - 1 - L[i])) f)) ?_ ?_
    · rw [tb_length, w64 (by omega) (by omega), show ((i + 1 : Nat) : Int) + 1 = ((i + 2 : Nat) : Int) from by omega]; exact e
    · rw [w64 (by omega) (by omega), show (i : Int) + 1 = ((i + 1 : Nat) : Int) from by omega]
      have e2 := ih (i + 1) (st (al (n - 1 - L[i])) f) (by omega) (fun k hk => Rs.st_deg (n := i + 1) (fun k hk => hf k (by omega)) k (by omega))
      rw [List.drop_eq_getElem_cons hil]
      exact e2
theorem locatorG (n : Nat) (L : List Nat) (hn : n ≤ 255) (hL : ∀ i, i ∈ L → i < n) (hl : L.length ≤ 255) : Ev (fun k => label_locator.f k (n : Int) (ql L)) (tb (L.length + 1) (loc (pl n L))) := by
  unfold label_locator.f
  rw [ql_length]
  have e := locator_l0 n L hn hL hl L.length 0 dl (by omega) (fun k hk => by obtain ⟨j, rfl⟩ : ∃ j, k = j + 1 := ⟨k - 1, by omega⟩; rfl)
  rw [List.drop_zero, tb_congr (n := L.length + 1) (f := locR n L dl) (g := loc (pl n L)) (fun j _ => locR_loc n L j)] at e
  exact e
theorem slope_l0 (n : Nat) (f : PS) (hn : n ≤ 1000) (m : Nat) : ∀ i, i + 1 + m = n + 1 → Ev (fun k => label_slope.l0 k (tb (n + 1) f) (tb i (dv f)) ((i + 1 : Nat) : Int)) (tb n (dv f)) := by
  induction m with
  | zero =>
    intro i hi
    obtain rfl : i = n := by omega
    refine Ev.step (f := fun k => _) (fun k => by rw [label_slope.l0]) ?_
    exact Ev.neg (by rw [tb_length]; omega) (Ev.now _)
  | succ m ih =>
    intro i hi
    refine Ev.step (f := fun k => _) (fun k => by rw [label_slope.l0]) ?_
    have e := ih (i + 1) (by omega)
    rw [← tb_snoc i (dv f)] at e
    have d : dv f i = if i % 2 = 0 then f (i + 1) else 0 := rfl
    rw [odd_step, w64 (n := ((i + 1 : Nat) : Int) + 1) (by omega) (by omega), tb_rd (n + 1) f (i + 1) (by omega)]
    refine Ev.pos (by rw [tb_length]; omega) ?_
    by_cases h : i % 2 = 0
    · rw [if_pos h] at d
      rw [d] at e
      exact Ev.pos (by omega) (Ev.pos (by omega) (Ev.pos (by rw [tb_length]; omega) e))
    · rw [if_neg h] at d
      rw [d] at e
      exact Ev.neg (by omega) (Ev.pos (by rw [tb_length]; omega) e)
theorem slopeG (n : Nat) (f : PS) (hn : n ≤ 1000) : Ev (fun k => label_slope.f k (tb (n + 1) f)) (tb n (dv f)) := by
  unfold label_slope.f; exact slope_l0 n f hn n 0 (by omega)
theorem eval_l0 (n : Nat) (f : PS) (x : GF) (hn : n ≤ 1000) : ∀ (t : Nat) (y : GF), t ≤ n → y = ev (n - t) (fun j => f (t + j)) x → Ev (fun k => label_eval.l0 k (tb n f) ((x.v : Nat) : Int) ((y.v : Nat) : Int) ((t : Int) - 1)) (((ev n f x).v : Nat) : Int) := by
  intro t
  induction t with
  | zero =>
    intro y ht hy
    refine Ev.step (f := fun k => _) (fun k => by rw [label_eval.l0]) ?_
    refine Ev.neg (by omega) ?_
    rw [hy, Nat.sub_zero, show (fun j => f (0 + j)) = f from funext fun j => by rw [Nat.zero_add]]
    exact Ev.now _
  | succ t ih =>
    intro y ht hy
    refine Ev.step (f := fun k => _) (fun k => by rw [label_eval.l0]) ?_
    rw [show ((t + 1 : Nat) : Int) - 1 = (t : Int) from by omega]
    refine Ev.pos (by omega) (Ev.bind' (mulG y x) (Ev.pos (by omega) (Ev.pos (by rw [tb_length]; omega) ?_)))
    rw [tb_rd n f t (by omega), xor8G, w64 (by omega) (by omega)]
    refine ih (y * x + f t) (by omega) ?_
    rw [hy, show n - t = (n - (t + 1)) + 1 from by omega]
    show _ = f (t + 0) + x * ev (n - (t + 1)) (fun j => f (t + (j + 1))) x
    rw [show (fun j => f (t + (j + 1))) = fun j => f (t + 1 + j) from funext fun j => by congr 1; omega, Rs.GF.add_comm, Rs.GF.mul_comm]; rfl
theorem evalG (n : Nat) (f : PS) (x : GF) (hn : n ≤ 1000) : Ev (fun k => label_eval.f k (tb n f) ((x.v : Nat) : Int)) (((ev n f x).v : Nat) : Int) := by
  unfold label_eval.f
  rw [tb_length, w64 (by omega) (by omega)]
  exact eval_l0 n f x hn n 0 (Nat.le_refl _) (by rw [Nat.sub_self]; rfl)
open Rs (PS GF hv gen nx en cut wd cv st sh tl loc dl dv ev cnt)
open Rs.GF (al)
/-! ### find: Berlekamp's and Massey's way -/
/-- what find computes: steps left, now, old, the length, the round -/
def bm (S : PS) (g : Nat) : Nat → PS → PS → Nat → Nat → PS
  | 0, N, _, _, _ => N
  | m + 1, N, O, L, r =>
    if cv r N S = 0 then bm S g m N (sh O) L (r + 1) else
    if 2 * L ≤ r + g then bm S g m (fun j => N j + cv r N S * sh O j) (fun j => (cv r N S).inv * N j) (r + g + 1 - L) (r + 1) else
    bm S g m (fun j => N j + cv r N S * sh O j) (sh O) L (r + 1)
theorem find_l3 (s x13 : List Int) (p g L r : Int) (P : Nat) (N : PS) (d : GF) (hd : d ≠ 0) (res : List Int) (hP : P ≤ 1000) (m : Nat) : ∀ (t : Nat) (O : PS), t + m = P →
    Ev (fun k => label_find.l0 k s p g x13 (tb P (fun j => if t ≤ j then d.inv * N j else O j)) L (wrap64 (r + 1))) res →
    Ev (fun k => label_find.l3 k s p g (tb P N) (tb P O) L r ((d.v : Nat) : Int) x13 (P : Int) (t : Int)) res := by
  induction m with
  | zero =>
    intro t O ht h
    obtain rfl : t = P := by omega
    refine Ev.step (f := fun k => _) (fun k => by rw [label_find.l3]) ?_
    refine Ev.neg (by omega) ?_
    rw [tb_congr (n := t) (f := fun j => if t ≤ j then d.inv * N j else O j) (g := O) (fun j _ => if_neg (by omega))] at h
    exact h
  | succ m ih =>
    intro t O ht h
    refine Ev.step (f := fun k => _) (fun k => by rw [label_find.l3]) ?_
    refine Ev.pos (by omega) (Ev.pos (by omega) (Ev.pos (by rw [tb_length]; omega) (Ev.bind' (invG hd) ?_)))
    rw [tb_rd P N t (by omega)]
    refine Ev.bind' (mulG _ _) (Ev.pos (by rw [tb_length]; omega) ?_)
    rw [Int.toNat_natCast, tb_set, w64 (n := (t : Int) + 1) (by omega) (by omega)]
    refine ih (t + 1) _ (by omega) ?_
    rw [tb_congr (n := P) (f := fun j => if t + 1 ≤ j then d.inv * N j else (if j = t then N t * d.inv else O j)) (g := fun j => if t ≤ j then d.inv * N j else O j) (fun j _ => by
      by_cases e : j = t
      · subst e; rw [if_neg (by omega), if_pos rfl, if_pos (Nat.le_refl _), Rs.GF.mul_comm]
      · rw [if_neg e]
        by_cases h : t ≤ j
        · rw [if_pos h, if_pos (by omega)]
        · rw [if_neg h, if_neg (by omega)])]
    exact h
theorem find_l2 (s : List Int) (p g L r : Int) (P : Nat) (N O : PS) (d : GF) (res : List Int) (hP : P ≤ 1000) (m : Nat) : ∀ (t : Nat) (X : PS), t + m = P →
    Ev (fun k => if (wrap64 (2 * L)) ≤ (wrap64 (r + g)) then (label_find.l3 k s p g (tb P N) (tb P O) (wrap64 ((wrap64 ((wrap64 (r + g)) + 1)) - L)) r ((d.v : Nat) : Int) (tb P (fun j => if t ≤ j then N j + d * O j else X j)) ((tb P O).length : Int) 0) else (label_find.l0 k s p g (tb P (fun j => if t ≤ j then N j + d * O j else X j)) (tb P O) L (wrap64 (r + 1)))) res →
    Ev (fun k => label_find.l2 k s p g (tb P N) (tb P O) L r ((d.v : Nat) : Int) (tb P X) (P : Int) (t : Int)) res := by
  induction m with
  | zero =>
    intro t X ht h
    obtain rfl : t = P := by omega
    refine Ev.step (f := fun k => _) (fun k => by rw [label_find.l2]) ?_
    refine Ev.neg (by omega) ?_
    rw [tb_congr (n := t) (f := fun j => if t ≤ j then N j + d * O j else X j) (g := X) (fun j _ => if_neg (by omega))] at h
    exact h
  | succ m ih =>
    intro t X ht h
    refine Ev.step (f := fun k => _) (fun k => by rw [label_find.l2]) ?_
    refine Ev.pos (by omega) (Ev.pos (by omega) (Ev.pos (by rw [tb_length]; omega) (Ev.pos (by rw [tb_length]; omega) ?_)))
    rw [tb_rd P N t (by omega), tb_rd P O t (by omega)]
    refine Ev.bind' (mulG _ _) (Ev.pos (by rw [tb_length]; omega) ?_)
    rw [Int.toNat_natCast, xor8G, tb_set, w64 (n := (t : Int) + 1) (by omega) (by omega)]
    refine ih (t + 1) _ (by omega) ?_
    rw [tb_congr (n := P) (f := fun j => if t + 1 ≤ j then N j + d * O j else (if j = t then N t + d * O t else X j)) (g := fun j => if t ≤ j then N j + d * O j else X j) (fun j _ => by
      by_cases e : j = t
      · subst e; rw [if_neg (by omega), if_pos rfl, if_pos (Nat.le_refl _)]
      · rw [if_neg e]
        by_cases h : t ≤ j
        · rw [if_pos h, if_pos (by omega)]
        · rw [if_neg h, if_neg (by omega)])]
    exact h
theorem find_l1 (p g L : Int) (P r : Nat) (S N : PS) (O : List Int) (res : List Int) (hP : P ≤ 1000) (hr : r < P) (m : Nat) : ∀ (t : Nat), t + m = r + 1 →
    (cv r N S = 0 → Ev (fun k => label_find.l0 k (tb P S) p g (tb (P + 1) N) O L ((r + 1 : Nat) : Int)) res) →
    (cv r N S ≠ 0 → Ev (fun k => if 0 ≤ (wrap64 (p + 1)) then (if (wrap64 (p + 1) : Int).toNat ≤ 281474976710656 then ((some (List.replicate (wrap64 (p + 1) : Int).toNat 0 : List Int)).bind fun y170 => (label_find.l2 k (tb P S) p g (tb (P + 1) N) O L (r : Int) (((cv r N S).v : Nat) : Int) y170 (y170.length : Int) 0)) else (none)) else (none)) res) →
    Ev (fun k => label_find.l1 k (tb P S) p g (tb (P + 1) N) O L (r : Int) (((cv r (cut t N) S).v : Nat) : Int) ((r + 1 : Nat) : Int) (t : Int)) res := by
  induction m with
  | zero =>
    intro t ht h1 h2
    obtain rfl : t = r + 1 := by omega
    refine Ev.step (f := fun k => _) (fun k => by rw [label_find.l1]) ?_
    rw [Rs.cv_cut_all r (r + 1) N S (by omega)]
    refine Ev.neg (by omega) ?_
    by_cases e : cv r N S = 0
    · refine Ev.pos ((v0 _).2 e) ?_
      rw [w64 (by omega) (by omega), show (r : Int) + 1 = ((r + 1 : Nat) : Int) from by omega]
      exact h1 e
    · exact Ev.neg (fun e' => e ((v0 _).1 e')) (h2 e)
  | succ m ih =>
    intro t ht h1 h2
    refine Ev.step (f := fun k => _) (fun k => by rw [label_find.l1]) ?_
    rw [w64 (n := (r : Int) - t) (by omega) (by omega), w64 (n := (t : Int) + 1) (by omega) (by omega), show (r : Int) - t = ((r - t : Nat) : Int) from by omega]
    refine Ev.pos (by omega) (Ev.pos (by omega) (Ev.pos (by rw [tb_length]; omega) (Ev.pos (by omega) (Ev.pos (by rw [tb_length]; omega) ?_))))
    rw [tb_rd (P + 1) N t (by omega), tb_rd P S (r - t) (by omega)]
    refine Ev.bind' (mulG _ _) ?_
    have e := Rs.cv_cut t r N S
    rw [if_pos (by omega)] at e
    rw [xor8G, ← e]
    exact ih (t + 1) (by omega) h1 h2
theorem find_l0 (p g : Nat) (S : PS) (hp : p ≤ 500) (m : Nat) : ∀ (r L : Nat) (N O : PS), r + m = p → g ≤ L → L ≤ r →
    Ev (fun k => label_find.l0 k (tb p S) (p : Int) (g : Int) (tb (p + 1) N) (tb (p + 1) O) (L : Int) (r : Int)) (tb (p + 1) (bm S g m N O L r)) := by
  induction m with
  | zero =>
    intro r L N O hr h1 h2
    refine Ev.step (f := fun k => _) (fun k => by rw [label_find.l0]) ?_
    exact Ev.neg (by omega) (Ev.now _)
  | succ m ih =>
    intro r L N O hr h1 h2
    refine Ev.step (f := fun k => _) (fun k => by rw [label_find.l0]) ?_
    refine Ev.pos (by omega) (Ev.bind' rfl (Ev.pos (by omega) (Ev.pos (by rw [tb_length]; omega) (Ev.bind' rfl ?_))))
    rw [Int.toNat_natCast, tb_take p (p + 1) O (by omega)]
    have hsh : ([0] : List Int) ++ tb p O = tb (p + 1) (sh O) := by rw [tb_succ]; rfl
    rw [hsh, tb_length]
    refine Ev.pos (by simp; omega) ?_
    have hmn : mn (r : Int) (p : Int) = r := by unfold mn; rw [if_neg (by omega)]
    rw [hmn, w64 (n := (r : Int) + 1) (by omega) (by omega), show (r : Int) + 1 = ((r + 1 : Nat) : Int) from by omega]
    have e0 : (0 : Int) = (((cv r (cut 0 N) S).v : Nat) : Int) := by rw [cut_zero, Rs.cv_zero_left]; rfl
    have key := find_l1 (p : Int) (g : Int) (L : Int) p r S N (tb (p + 1) (sh O)) (tb (p + 1) (bm S g (m + 1) N O L r)) (by omega) (by omega) (r + 1) 0 (by omega)
      (fun hd => by
        unfold bm
        rw [if_pos hd]
        exact ih (r + 1) L N (sh O) (by omega) h1 (by omega))
      (fun hd => by
        rw [w64 (n := (p : Int) + 1) (by omega) (by omega), show (p : Int) + 1 = ((p + 1 : Nat) : Int) from by omega, Int.toNat_natCast]
        refine Ev.pos (by omega) (Ev.pos (by omega) (Ev.bind' rfl ?_))
        rw [List.length_replicate, tb_zero]
        refine find_l2 _ _ _ _ _ (p + 1) N (sh O) (cv r N S) _ (by omega) (p + 1) 0 _ (by omega) ?_
        rw [tb_congr (n := p + 1) (f := fun j => if 0 ≤ j then N j + cv r N S * sh O j else 0) (g := fun j => N j + cv r N S * sh O j) (fun j _ => if_pos (Nat.zero_le _)), tb_length]
        rw [w64 (n := 2 * (L : Int)) (by omega) (by omega), w64 (n := (r : Int) + g) (by omega) (by omega), w64 (n := (r : Int) + g + 1) (by omega) (by omega), w64 (n := (r : Int) + g + 1 - L) (by omega) (by omega)]
        unfold bm
        rw [if_neg hd]
        by_cases h : 2 * L ≤ r + g
        · rw [if_pos h]
          refine Ev.pos (by omega) ?_
          refine find_l3 _ _ _ _ _ _ (p + 1) N (cv r N S) hd _ (by omega) (p + 1) 0 _ (by omega) ?_
          rw [tb_congr (n := p + 1) (f := fun j => if 0 ≤ j then (cv r N S).inv * N j else sh O j) (g := fun j => (cv r N S).inv * N j) (fun j _ => if_pos (Nat.zero_le _))]
          rw [w64 (by omega) (by omega), show (r : Int) + g + 1 - L = ((r + g + 1 - L : Nat) : Int) from by omega, show (r : Int) + 1 = ((r + 1 : Nat) : Int) from by omega]
          exact ih (r + 1) _ _ _ (by omega) (by omega) (by omega)
        · rw [if_neg h]
          refine Ev.neg (by omega) ?_
          rw [w64 (by omega) (by omega), show (r : Int) + 1 = ((r + 1 : Nat) : Int) from by omega]
          exact ih (r + 1) _ _ _ (by omega) h1 (by omega))
    rw [← e0] at key
    exact key
theorem extendG (n m : Nat) (f : PS) (hf : ∀ k, n ≤ k → f k = 0) (hn : n ≤ m) (hm : m ≤ 1000) : Hand.label_extend.f (tb n f) (m : Int) = some (tb m f) := by
  unfold Hand.label_extend.f
  rw [if_pos (by omega), if_pos (by omega), if_pos (by rw [tb_length]; omega), Int.toNat_natCast, tb_length, tb_zero, tb_append, show n + (m - n) = m from by omega]
  congr 1
  refine tb_congr fun j _ => ?_
  by_cases h : j < n
  · rw [if_pos h]
  · rw [if_neg h]; exact (hf j (by omega)).symm
theorem findG (p g : Nat) (S G : PS) (hp : p ≤ 500) (hg : g ≤ p) (hG : ∀ k, g + 1 ≤ k → G k = 0) : Ev (fun k => label_find.f k (tb p S) (tb (g + 1) G)) (tb (p + 1) (bm S g (p - g) G G g g)) := by
  unfold label_find.f
  rw [tb_length, tb_length, w64 (n := (p : Int) + 1) (by omega) (by omega), w64 (n := ((g + 1 : Nat) : Int) - 1) (by omega) (by omega), show (p : Int) + 1 = ((p + 1 : Nat) : Int) from by omega, show ((g + 1 : Nat) : Int) - 1 = (g : Int) from by omega]
  exact Ev.bind' (extendG (g + 1) (p + 1) G hG (by omega) (by omega)) (Ev.bind' (extendG (g + 1) (p + 1) G hG (by omega) (by omega)) (find_l0 p g S hp (p - g) g g G G (by omega) (Nat.le_refl _) (Nat.le_refl _)))
open Rs (PS GF hv gen nx en cut wd cv st sh tl loc dl dv ev cnt)
open Rs.GF (al)
/-! ### repair -/
/-- what repair adds at the place i -/
def fx (n p : Nat) (S W : PS) (i : Nat) : GF :=
  let x := al (n - 1 - i)
  if ev (p + 1) W x.inv = 0 then (if ev p (dv W) x.inv = 0 then 0 else x * (ev p (fun k => cv k S W) x.inv * (ev p (dv W) x.inv).inv)) else 0
theorem repair_l0 (n p : Nat) (w S W : PS) (hn : n ≤ 255) (hp : p ≤ 500) (m : Nat) : ∀ (i : Nat), i + m = n →
    Ev (fun k => label_repair.l0 k (tb (p + 1) W) (tb n (fun j => if j < i then w j + fx n p S W j else w j)) (tb p (fun k => cv k S W)) (tb p (dv W)) (n : Int) (i : Int)) (tb n (fun j => w j + fx n p S W j)) := by
  induction m with
  | zero =>
    intro i hi
    obtain rfl : i = n := by omega
    refine Ev.step (f := fun k => _) (fun k => by rw [label_repair.l0]) ?_
    refine Ev.neg (by omega) ?_
    rw [tb_congr (n := i) (f := fun j => if j < i then w j + fx i p S W j else w j) (g := fun j => w j + fx i p S W j) (fun j hj => if_pos hj)]
    exact Ev.now _
  | succ m ih =>
    intro i hi
    refine Ev.step (f := fun k => _) (fun k => by rw [label_repair.l0]) ?_
    have e := ih (i + 1) (by omega)
    rw [tb_length, w64 (n := (n : Int) - 1) (by omega) (by omega), w64 (n := (n : Int) - 1 - i) (by omega) (by omega), w64 (n := (i : Int) + 1) (by omega) (by omega), show (n : Int) - 1 - (i : Int) = ((n - 1 - i : Nat) : Int) from by omega, show (i : Int) + 1 = ((i + 1 : Nat) : Int) from by omega]
    refine Ev.pos (by omega) (Ev.bind' (expG _ (by omega)) (Ev.bind' (invG (Rs.GF.al_ne _)) (Ev.bind (evalG (p + 1) W _ (by omega)) ?_)))
    have keep : fx n p S W i = 0 → Ev (fun k => label_repair.l0 k (tb (p + 1) W) (tb n (fun j => if j < i then w j + fx n p S W j else w j)) (tb p (fun k => cv k S W)) (tb p (dv W)) (n : Int) ((i + 1 : Nat) : Int)) (tb n (fun j => w j + fx n p S W j)) := by
      intro h0
      rw [tb_congr (n := n) (f := fun j => if j < i + 1 then w j + fx n p S W j else w j) (g := fun j => if j < i then w j + fx n p S W j else w j) (fun j _ => by
        by_cases e : j = i
        · subst e; rw [if_pos (by omega), if_neg (by omega), h0, Rs.GF.add_zero]
        · by_cases h : j < i
          · rw [if_pos h, if_pos (by omega)]
          · rw [if_neg h, if_neg (by omega)])] at e
      exact e
    by_cases h1 : ev (p + 1) W (al (n - 1 - i)).inv = 0
    · refine Ev.pos ((v0 _).2 h1) (Ev.bind (evalG p (dv W) _ (by omega)) ?_)
      by_cases h2 : ev p (dv W) (al (n - 1 - i)).inv = 0
      · refine Ev.pos ((v0 _).2 h2) (keep ?_)
        show (if ev (p + 1) W (al (n - 1 - i)).inv = 0 then (if ev p (dv W) (al (n - 1 - i)).inv = 0 then (0 : GF) else _) else 0) = 0
        rw [if_pos h1, if_pos h2]
      · refine Ev.neg (fun e' => h2 ((v0 _).1 e')) (Ev.pos (by omega) (Ev.pos (by omega) ?_))
        refine Ev.bind (evalG p _ _ (by omega)) (Ev.bind' (invG h2) (Ev.bind' (mulG _ _) (Ev.bind' (mulG _ _) ?_)))
        rw [tb_rd n _ i (by omega), if_neg (by omega), xor8G, Int.toNat_natCast, tb_set]
        have hfx : fx n p S W i = al (n - 1 - i) * (ev p (fun k => cv k S W) (al (n - 1 - i)).inv * (ev p (dv W) (al (n - 1 - i)).inv).inv) := by
          show (if ev (p + 1) W (al (n - 1 - i)).inv = 0 then (if ev p (dv W) (al (n - 1 - i)).inv = 0 then (0 : GF) else _) else 0) = _
          rw [if_pos h1, if_neg h2]
        rw [← hfx]
        rw [tb_congr (n := n) (f := fun j => if j < i + 1 then w j + fx n p S W j else w j) (g := fun j => if j = i then w i + fx n p S W i else (if j < i then w j + fx n p S W j else w j)) (fun j _ => by
          by_cases e : j = i
          · subst e; rw [if_pos (by omega), if_pos rfl]
          · rw [if_neg e]
            by_cases h : j < i
            · rw [if_pos h, if_pos (by omega)]
            · rw [if_neg h, if_neg (by omega)])] at e
        exact e
    · refine Ev.neg (fun e' => h1 ((v0 _).1 e')) (keep ?_)
      show (if ev (p + 1) W (al (n - 1 - i)).inv = 0 then (if ev p (dv W) (al (n - 1 - i)).inv = 0 then (0 : GF) else _) else 0) = 0
      rw [if_neg h1]
theorem repairG (n p : Nat) (w S W : PS) (hn : n ≤ 255) (hp : p ≤ 500) : Ev (fun k => label_repair.f k (tb n w) (tb p S) (tb (p + 1) W)) (tb n (fun j => w j + fx n p S W j)) := by
  unfold label_repair.f
  refine Ev.bind' rfl (Ev.pos (by rw [tb_length]; simp; omega) (Ev.bind' rfl ?_))
  rw [List.nil_append, tb_length, tb_length]
  have e := timesG p (p + 1) p S W (by omega) (by omega) (by omega)
  rw [tb_congr (n := p) (f := fun j => cv j (cut p S) (cut (p + 1) W)) (g := fun j => cv j S W) (fun j hj => by
    rw [Rs.cv_cut_all j p S _ hj, Rs.cv_comm, Rs.cv_cut_all j (p + 1) W _ (by omega), Rs.cv_comm])] at e
  refine Ev.bind' e (Ev.bind (slopeG p W (by omega)) ?_)
  have e2 := repair_l0 n p w S W hn hp n 0 (by omega)
  rw [tb_congr (n := n) (f := fun j => if j < 0 then w j + fx n p S W j else w j) (g := w) (fun j _ => if_neg (by omega))] at e2
  exact e2
open Rs (PS GF hv gen nx en cut wd cv st sh tl loc dl dv ev cnt)
open Rs.GF (al)
/-! ### spots, changes, Decode -/
def dis : List Nat → List Nat → List Nat
  | [], out => out
  | i :: l, out => if i ∈ out then dis l out else dis l (out ++ [i])
theorem ql_mem (i : Nat) (L : List Nat) : (i : Int) ∈ ql L ↔ i ∈ L := by
  unfold ql
  rw [List.mem_map]
  constructor
  · rintro ⟨j, h, e⟩
    have : j = i := by omega
    exact this ▸ h
  · intro h; exact ⟨i, h, rfl⟩
theorem ql_snoc (L : List Nat) (i : Nat) : ql L ++ [(i : Int)] = ql (L ++ [i]) := by unfold ql; rw [List.map_append]; rfl
theorem spL_ql (n : Nat) (l : List Nat) : ∀ out, (∀ i, i ∈ l → i < n) → Hand.spL (n : Int) (ql l) (ql out) = some (ql (dis l out)) := by
  induction l with
  | nil => intro out _; rfl
  | cons i l ih =>
    intro out h
    have hi := h i (by simp)
    show (if (i : Int) < 0 ∨ (n : Int) ≤ (i : Int) then none else if (i : Int) ∈ ql out then Hand.spL (n : Int) (ql l) (ql out) else Hand.spL (n : Int) (ql l) (ql out ++ [(i : Int)])) = some (ql (if i ∈ out then dis l out else dis l (out ++ [i])))
    rw [if_neg (by omega), ql_snoc]
    by_cases hm : i ∈ out
    · rw [if_pos ((ql_mem i out).2 hm), if_pos hm]; exact ih out (fun j hj => h j (by simp [hj]))
    · rw [if_neg (fun e => hm ((ql_mem i out).1 e)), if_neg hm]; exact ih _ (fun j hj => h j (by simp [hj]))
theorem dis_mem (l : List Nat) : ∀ out i, i ∈ dis l out ↔ i ∈ out ∨ i ∈ l := by
  induction l with
  | nil => intro out i; simp [dis]
  | cons j l ih =>
    intro out i
    unfold dis
    by_cases h : j ∈ out
    · rw [if_pos h, ih]
      constructor
      · rintro (h1 | h1)
        · exact .inl h1
        · exact .inr (by simp [h1])
      · rintro (h1 | h1)
        · exact .inl h1
        · rcases List.mem_cons.1 h1 with rfl | h1
          · exact .inl h
          · exact .inr h1
    · rw [if_neg h, ih]
      simp only [List.mem_append, List.mem_singleton, List.mem_cons, or_assoc, List.not_mem_nil, or_false]
theorem dis_nodup (l : List Nat) : ∀ out, out.Nodup → (dis l out).Nodup := by
  induction l with
  | nil => intro out h; exact h
  | cons j l ih =>
    intro out h
    unfold dis
    by_cases hj : j ∈ out
    · rw [if_pos hj]; exact ih out h
    · rw [if_neg hj]
      refine ih _ (List.nodup_append.2 ⟨h, by simp, ?_⟩)
      intro a ha b hb e
      obtain rfl := List.mem_singleton.1 hb
      exact hj (e ▸ ha)
theorem dis_length (l : List Nat) : ∀ out, (dis l out).length ≤ out.length + l.length := by
  induction l with
  | nil => intro out; exact Nat.le_refl _
  | cons j l ih =>
    intro out
    unfold dis
    rw [List.length_cons]
    split
    · have := ih out; omega
    · have := ih (out ++ [j]); rw [List.length_append] at this; simp at this; omega
theorem spotsG (n : Nat) (l : List Nat) (hn : n ≤ 255) (hl : l.length ≤ 255) (h : ∀ i, i ∈ l → i < n) : Hand.label_spots.f (ql l) (n : Int) = some (ql (dis l []), true) := by
  unfold Hand.label_spots.f
  rw [if_neg (by rw [ql_length]; omega), if_pos (by omega)]
  have := spL_ql n l [] h
  rw [show ql [] = [] from rfl] at this
  rw [this]
/-- the differences at other places -/
def oth (D : List Nat) (f : PS) : PS := fun j => if j ∈ D then 0 else f j
theorem cnt_from (f : PS) (i m : Nat) : cnt (m + 1) (fun j => f (i + j)) = (if f i = 0 then 0 else 1) + cnt m (fun j => f (i + 1 + j)) := by
  show (if f (i + 0) = 0 then 0 else 1) + cnt m (tl fun j => f (i + j)) = _
  rw [show (tl fun j => f (i + j)) = fun j => f (i + 1 + j) from funext fun j => by show f (i + (j + 1)) = _; congr 1; omega]; rfl
theorem chg_tb (n : Nat) (w o : PS) (D : List Nat) (X : PS) (hX : X = fun j => w j + o j) (m : Nat) : ∀ (i : Nat) (a b : Nat), i + m = n →
    Hand.chg (tb n o) (ql D) (tb m (fun j => w (i + j))) i (a : Int) (b : Int) = (((a + cnt m (fun j => X (i + j)) : Nat) : Int), ((b + cnt m (fun j => oth D X (i + j)) : Nat) : Int)) := by
  induction m with
  | zero => intro i a b _; rfl
  | succ m ih =>
    intro i a b hi
    have e1 : tl (fun j => w (i + j)) = fun j => w (i + 1 + j) := funext fun j => by show w (i + (j + 1)) = _; congr 1; omega
    rw [tb_succ, e1, cnt_from X, cnt_from (oth D X)]
    show (if ((w (i + 0)).v : Int) = rd (tb n o) i then Hand.chg _ _ (tb m (fun j => w (i + 1 + j))) (i + 1) _ _ else if (i : Int) ∈ ql D then Hand.chg _ _ (tb m (fun j => w (i + 1 + j))) (i + 1) _ _ else Hand.chg _ _ (tb m (fun j => w (i + 1 + j))) (i + 1) _ _) = _
    rw [tb_rd n o i (by omega), show i + 0 = i from rfl]
    have hXi : X i = w i + o i := by rw [hX]
    by_cases h : w i = o i
    · have h0 : X i = 0 := by rw [hXi, h, Rs.GF.add_self]
      have h1 : oth D X i = 0 := by unfold oth; rw [h0]; split <;> rfl
      rw [if_pos (by rw [h]), ih (i + 1) a b (by omega), if_pos h0, if_pos h1, Nat.zero_add, Nat.zero_add]
    · have h0 : X i ≠ 0 := by rw [hXi]; exact Rs.GF.add_ne h
      rw [if_neg (fun e => h (Rs.GF.ext (by omega))), if_neg h0]
      by_cases hD : i ∈ D
      · have h1 : oth D X i = 0 := by unfold oth; rw [if_pos hD]
        have := ih (i + 1) (a + 1) b (by omega)
        rw [if_pos ((ql_mem i D).2 hD), if_pos h1, show (a : Int) + 1 = ((a + 1 : Nat) : Int) from by omega, this, Nat.zero_add, Nat.add_assoc]
      · have h1 : oth D X i ≠ 0 := by unfold oth; rw [if_neg hD]; exact h0
        have := ih (i + 1) (a + 1) (b + 1) (by omega)
        rw [if_neg (fun e => hD ((ql_mem i D).1 e)), if_neg h1, show (a : Int) + 1 = ((a + 1 : Nat) : Int) from by omega, show (b : Int) + 1 = ((b + 1 : Nat) : Int) from by omega, this, Nat.add_assoc, Nat.add_assoc]
theorem ql_small (D : List Nat) (h : ∀ i, i ∈ D → i < 100000) : Hand.smallB (ql D) = true := List.all_eq_true.2 fun x hx => by
  obtain ⟨i, hi, rfl⟩ := List.mem_map.1 hx
  exact decide_eq_true (by have := h i hi; omega)
theorem changesG (n : Nat) (w o : PS) (D : List Nat) (hn : n ≤ 1000) (hD : D.length ≤ 1000) (h : ∀ i, i ∈ D → i < 100000) :
    Hand.label_changes.f (tb n w) (tb n o) (ql D) = some (((cnt n (fun j => w j + o j) : Nat) : Int), ((cnt n (oth D (fun j => w j + o j)) : Nat) : Int)) := by
  unfold Hand.label_changes.f
  rw [if_pos ⟨by rw [tb_length, tb_length]; exact Nat.le_refl _, by rw [tb_length]; omega, by rw [ql_length]; omega, ql_small D h⟩]
  have e := chg_tb n w o D (fun j => w j + o j) rfl n 0 0 0 (by omega)
  simp only [Nat.zero_add] at e
  congr 1
/-- what stands in the place of the word -/
def outf (n p : Nat) (w : PS) (D : List Nat) : PS :=
  if zB p (sy n w) = true then w else fun j => w j + fx n p (sy n w) (bm (sy n w) D.length (p - D.length) (loc (pl n D)) (loc (pl n D)) D.length D.length) j
theorem decOutG (n p : Nat) (w : PS) (D : List Nat) (hn : n ≤ 255) (hp : p ≤ 64) (hD : ∀ i, i ∈ D → i < n) (hl : D.length ≤ p) : Ev (fun k => decOut k (tb n w) (p : Int) (ql D)) (zB p (sy n w), tb n (outf n p w D)) := by
  unfold decOut outf
  refine Ev.bind (synG n p w (by omega) (by omega)) (Ev.bind (zeroG p _ (by omega)) ?_)
  cases hz : zB p (sy n w) with
  | true => exact Ev.pos rfl (Ev.now _)
  | false =>
    rw [tb_length]
    refine Ev.neg (by simp) (Ev.bind (locatorG n D hn hD (by omega)) (Ev.bind (findG p D.length _ _ (by omega) hl (fun k hk => Rs.loc_deg _ k (by unfold pl; rw [List.length_map]; exact hk))) (Ev.bind (repairG n p w _ _ hn (by omega)) (Ev.now _))))
def decRes (n p : Nat) (w : PS) (D : List Nat) : ByteArray × Int × Int :=
  if 2 * cnt n (oth D (fun j => w j + outf n p w D j)) + D.length > p then (⟨#[]⟩, 0, 6) else
  if zB p (sy n (outf n p w D)) = true then (strOfNums (tb (n - p) (outf n p w D)), ((cnt n (fun j => w j + outf n p w D j) : Nat) : Int), 0) else (⟨#[]⟩, 0, 6)
theorem decEndG (n p : Nat) (w : PS) (D : List Nat) (hn : n ≤ 255) (hp : p ≤ 64) (hpn : p < n) (hD : ∀ i, i ∈ D → i < n) (hl : D.length ≤ p) : Ev (fun k => decEnd k (tb n w) (p : Int) (ql D) (tb n (outf n p w D))) (decRes n p w D) := by
  unfold decEnd decRes
  refine Ev.bind' (changesG n w _ D (by omega) (by omega) (fun i hi => by have := hD i hi; omega)) ?_
  have hc := Rs.cnt_le n (oth D (fun j => w j + outf n p w D j))
  rw [tb_length, ql_length]
  refine Ev.pos ⟨by omega, by omega, by omega, by omega, by omega⟩ ?_
  by_cases h : 2 * cnt n (oth D (fun j => w j + outf n p w D j)) + D.length > p
  · rw [if_pos h]; exact Ev.pos (by omega) (Ev.now _)
  · rw [if_neg h]
    refine Ev.neg (by omega) (Ev.bind (synG n p _ (by omega) (by omega)) (Ev.bind (zeroG p _ (by omega)) ?_))
    by_cases hz : zB p (sy n (outf n p w D)) = true
    · refine Ev.pos hz ?_
      rw [if_pos hz, show ((n : Int) - p).toNat = n - p from by omega, tb_take (n - p) n _ (by omega)]
      exact Ev.now _
    · refine Ev.neg hz ?_
      rw [if_neg hz]
      exact Ev.now _
theorem DecodeG (n p : Nat) (w : PS) (l : List Nat) (hn : n ≤ 255) (hp : p ≤ 64) (hpn : p < n) (hl : l.length ≤ 255) (h : ∀ i, i ∈ l → i < n) :
    Ev (fun k => label_Decode.f k (strOfNums (tb n w)) (p : Int) (ql l)) (if (dis l []).length > p then (⟨#[]⟩, 0, 6) else decRes n p w (dis l [])) := by
  unfold label_Decode.f
  rw [str_size, bytes_tb]
  refine Ev.pos (by omega) (Ev.bind' (spotsG n l hn hl h) (Ev.bind' (parG n p hp) ?_))
  refine Ev.neg (by simp; omega) (Ev.neg (by simp) (Ev.pos (by omega) ?_))
  have hm : ∀ i, i ∈ dis l [] → i < n := fun i hi => h i (((dis_mem l [] i).1 hi).resolve_left (by simp))
  show Ev (fun k => if ((ql (dis l [])).length : Int) > (p : Int) then some (⟨#[]⟩, 0, 6) else (decOut k (tb n w) (p : Int) (ql (dis l []))).bind fun o => decEnd k (tb n w) (p : Int) (ql (dis l [])) o.2) _
  rw [ql_length]
  by_cases hg : (dis l []).length > p
  · rw [if_pos hg]; exact Ev.pos (by omega) (Ev.now _)
  · rw [if_neg hg]
    exact Ev.neg (by omega) (Ev.bind (decOutG n p w _ hn hp hm (by omega)) (decEndG n p w _ hn hp hpn hm (by omega)))
end Go.Proofs.Ytdgjanjoiabgfaa.Pure
