/- A part of the proof: what the law's row needs. -/
import Derived.Test.YtiioklboaookiaaGreatDoorV6
namespace Go.Proofs.YtiioklboaookiaaGreatDoor.Pure
open Go.RowKit Go.Proofs.YtiioklboaookiaaGreatDoor.Q Go.Proofs.YtiioklboaookiaaGreatDoorW.PrintWords Go.Proofs.YtiioklboaookiaaGreatDoorW.PrintLast Go.Proofs.YtiioklboaookiaaGreatDoorW.PrintMore
set_option linter.unusedVariables false
set_option linter.unusedSimpArgs false
open Rs (PS GF hv wd cnt)
theorem cut_str (s : ByteArray) (n : Nat) (h : n ≤ s.size) : ∃ f, s.extract 0 n = strOfNums (tb n f) := by
 obtain ⟨f, hf⟩ := str_of (s.extract 0 n)
 have e : (s.extract 0 n).size = n := by rw [ByteArray.size_extract]; omega
 rw [e] at hf
 exact ⟨f, hf⟩
open Rs (PS GF hv gen nx en cut wd cv st sh tl loc dl dv ev cnt)
open Rs.GF (al)
def ql (L : List Nat) : List Int := L.map fun (i : Nat) => (i : Int)
theorem ql_length (L : List Nat) : (ql L).length = L.length := by simp [ql]
theorem ql_rd (L : List Nat) (i : Nat) (h : i < L.length) : rd (ql L) (i : Int) = (L[i] : Int) := by
 unfold rd ql; rw [Int.toNat_natCast, List.getD_eq_getElem?_getD, List.getElem?_map, List.getElem?_eq_getElem h]; rfl
def pl (n : Nat) (L : List Nat) : List GF := L.map fun i => al (n - 1 - i)
def locR (n : Nat) : List Nat → PS → PS
 | [], f => f
 | i :: L, f => locR n L (st (al (n - 1 - i)) f)
theorem locR_cv (n : Nat) (L : List Nat) : ∀ f k, locR n L f k = cv k (loc (pl n L)) f := by
 induction L with
 | nil => intro f k; exact (Rs.cv_dl k f).symm
 | cons i L ih =>
  intro f k
  show locR n L (st (al (n - 1 - i)) f) k = cv k (st (al (n - 1 - i)) (loc (pl n L))) f
  rw [ih, Rs.cv_st, Rs.cv_st']
theorem locR_loc (n : Nat) (L : List Nat) : ∀ k, locR n L dl k = loc (pl n L) k := by
 intro k; rw [locR_cv, Rs.cv_comm, Rs.cv_dl]
theorem st_step (X : GF) (g : Nat) (f : PS) (h : ∀ k, g < k → f k = 0) (j : Nat) : cv j (cut (g + 1) f) (cut 2 (fun j => if j = 0 then 1 else X)) = st X f j := by
 rw [Rs.cut_deg (g + 1) f (fun k hk => h k (by omega)), Rs.cv_comm, cv_two, Rs.GF.one_mul]; rfl
theorem locator_l0 (n : Nat) (L : List Nat) (hn : n ≤ 255) (hL : ∀ i, i ∈ L → i < n) (hl : L.length ≤ 255) (m : Nat) : ∀ (i : Nat) (f : PS), i + m = L.length → (∀ k, i < k → f k = 0) →
  Ev (fun k => label_locator.l0 k (n : Int) (tb (i + 1) f) (ql L) (L.length : Int) (i : Int)) (tb (L.length + 1) (locR n (L.drop i) f)) := by
 induction m with
 | zero =>
  intro i f hi hf
  obtain rfl : i = L.length := by omega
  refine Ev.step (f := fun k => _) (fun k => by rw [label_locator.l0]) ?_
  refine Ev.neg (by omega) ?_
  rw [List.drop_length]; exact Ev.now _
 | succ m ih =>
  intro i f hi hf
  have hil : i < L.length := by omega
  have hin := hL L[i] (List.getElem_mem hil)
  refine Ev.step (f := fun k => _) (fun k => by rw [label_locator.l0]) ?_
  refine Ev.pos (by omega) (Ev.pos (by omega) (Ev.pos (by rw [ql_length]; omega) ?_))
  rw [ql_rd L i hil, w64 (n := (n : Int) - 1) (by omega) (by omega), w64 (by omega) (by omega), show (n : Int) - 1 - (L[i] : Int) = ((n - 1 - L[i] : Nat) : Int) from by omega]
  refine Ev.bind' (expG _ (by omega)) ?_
  have e := timesG (i + 1) 2 (i + 2) f (fun j => if j = 0 then 1 else al (n - 1 - L[i])) (by omega) (by omega) (by omega)
  rw [tb_congr (n := i + 2) (f := fun j => cv j (cut (i + 1) f) (cut 2 (fun j => if j = 0 then 1 else al (n - 1 - L[i])))) (g := st (al (n - 1 - L[i])) f) (fun j _ => st_step _ i f hf j)] at e
  refine Ev.bind' (a := tb (i + 2) (st (al (n - 1 - L[i])) f)) ?_ ?_
  ·rw [tb_length, w64 (by omega) (by omega), show ((i + 1 : Nat) : Int) + 1 = ((i + 2 : Nat) : Int) from by omega]; exact e
  ·rw [w64 (by omega) (by omega), show (i : Int) + 1 = ((i + 1 : Nat) : Int) from by omega]
   have e2 := ih (i + 1) (st (al (n - 1 - L[i])) f) (by omega) (fun k hk => Rs.st_deg (n := i + 1) (fun k hk => hf k (by omega)) k (by omega))
   rw [List.drop_eq_getElem_cons hil]
   exact e2
theorem locatorG (n : Nat) (L : List Nat) (hn : n ≤ 255) (hL : ∀ i, i ∈ L → i < n) (hl : L.length ≤ 255) : Ev (fun k => label_locator.f k (n : Int) (ql L)) (tb (L.length + 1) (loc (pl n L))) := by
 unfold label_locator.f
 rw [ql_length]
 have e := locator_l0 n L hn hL hl L.length 0 dl (by omega) (fun k hk => by obtain ⟨j, rfl⟩ : ∃ j, k = j + 1 := ⟨k - 1, by omega⟩; rfl)
 rw [List.drop_zero, tb_congr (n := L.length + 1) (f := locR n L dl) (g := loc (pl n L)) (fun j _ => locR_loc n L j)] at e
 exact e
theorem slope_l0 (n : Nat) (f : PS) (hn : n ≤ 1000) (m : Nat) : ∀ i, i + 1 + m = n + 1 → Ev (fun k => label_slope.l0 k (tb (n + 1) f) (tb i (dv f)) ((i + 1 : Nat) : Int)) (tb n (dv f)) := by
 induction m with
 | zero =>
  intro i hi
  obtain rfl : i = n := by omega
  refine Ev.step (f := fun k => _) (fun k => by rw [label_slope.l0]) ?_
  exact Ev.neg (by rw [tb_length]; omega) (Ev.now _)
 | succ m ih =>
  intro i hi
  refine Ev.step (f := fun k => _) (fun k => by rw [label_slope.l0]) ?_
  have e := ih (i + 1) (by omega)
  rw [← tb_snoc i (dv f)] at e
  have d : dv f i = if i % 2 = 0 then f (i + 1) else 0 := rfl
  rw [odd_step, w64 (n := ((i + 1 : Nat) : Int) + 1) (by omega) (by omega), tb_rd (n + 1) f (i + 1) (by omega)]
  refine Ev.pos (by rw [tb_length]; omega) ?_
  by_cases h : i % 2 = 0
  ·rw [if_pos h] at d
   rw [d] at e
   exact Ev.pos (by omega) (Ev.pos (by omega) (Ev.pos (by rw [tb_length]; omega) e))
  ·rw [if_neg h] at d
   rw [d] at e
   exact Ev.neg (by omega) (Ev.pos (by rw [tb_length]; omega) e)
theorem slopeG (n : Nat) (f : PS) (hn : n ≤ 1000) : Ev (fun k => label_slope.f k (tb (n + 1) f)) (tb n (dv f)) := by
 unfold label_slope.f; exact slope_l0 n f hn n 0 (by omega)
theorem eval_l0 (n : Nat) (f : PS) (x : GF) (hn : n ≤ 1000) : ∀ (t : Nat) (y : GF), t ≤ n → y = ev (n - t) (fun j => f (t + j)) x → Ev (fun k => label_eval.l0 k (tb n f) ((x.v : Nat) : Int) ((y.v : Nat) : Int) ((t : Int) - 1)) (((ev n f x).v : Nat) : Int) := by
 intro t
 induction t with
 | zero =>
  intro y ht hy
  refine Ev.step (f := fun k => _) (fun k => by rw [label_eval.l0]) ?_
  refine Ev.neg (by omega) ?_
  rw [hy, Nat.sub_zero, show (fun j => f (0 + j)) = f from funext fun j => by rw [Nat.zero_add]]
  exact Ev.now _
 | succ t ih =>
  intro y ht hy
  refine Ev.step (f := fun k => _) (fun k => by rw [label_eval.l0]) ?_
  rw [show ((t + 1 : Nat) : Int) - 1 = (t : Int) from by omega]
  refine Ev.pos (by omega) (Ev.bind' (mulG y x) (Ev.pos (by omega) (Ev.pos (by rw [tb_length]; omega) ?_)))
  rw [tb_rd n f t (by omega), xor8G, w64 (by omega) (by omega)]
  refine ih (y * x + f t) (by omega) ?_
  rw [hy, show n - t = (n - (t + 1)) + 1 from by omega]
  show _ = f (t + 0) + x * ev (n - (t + 1)) (fun j => f (t + (j + 1))) x
  rw [show (fun j => f (t + (j + 1))) = fun j => f (t + 1 + j) from funext fun j => by congr 1; omega, Rs.GF.add_comm, Rs.GF.mul_comm]; rfl
theorem evalG (n : Nat) (f : PS) (x : GF) (hn : n ≤ 1000) : Ev (fun k => label_eval.f k (tb n f) ((x.v : Nat) : Int)) (((ev n f x).v : Nat) : Int) := by
 unfold label_eval.f
 rw [tb_length, w64 (by omega) (by omega)]
 exact eval_l0 n f x hn n 0 (Nat.le_refl _) (by rw [Nat.sub_self]; rfl)
open Rs (PS GF hv gen nx en cut wd cv st sh tl loc dl dv ev cnt)
open Rs.GF (al)
def bm (S : PS) (g : Nat) : Nat → PS → PS → Nat → Nat → PS
 | 0, N, _, _, _ => N
 | m + 1, N, O, L, r =>
  if cv r N S = 0 then bm S g m N (sh O) L (r + 1) else
  if 2 * L ≤ r + g then bm S g m (fun j => N j + cv r N S * sh O j) (fun j => (cv r N S).inv * N j) (r + g + 1 - L) (r + 1) else
  bm S g m (fun j => N j + cv r N S * sh O j) (sh O) L (r + 1)
theorem find_l3 (s x13 : List Int) (p g L r : Int) (P : Nat) (N : PS) (d : GF) (hd : d ≠ 0) (res : List Int) (hP : P ≤ 1000) (m : Nat) : ∀ (t : Nat) (O : PS), t + m = P →
  Ev (fun k => label_find.l0 k s p g x13 (tb P (fun j => if t ≤ j then d.inv * N j else O j)) L (wrap64 (r + 1))) res →
  Ev (fun k => label_find.l3 k s p g (tb P N) (tb P O) L r ((d.v : Nat) : Int) x13 (P : Int) (t : Int)) res := by
 induction m with
 | zero =>
  intro t O ht h
  obtain rfl : t = P := by omega
  refine Ev.step (f := fun k => _) (fun k => by rw [label_find.l3]) ?_
  refine Ev.neg (by omega) ?_
  rw [tb_congr (n := t) (f := fun j => if t ≤ j then d.inv * N j else O j) (g := O) (fun j _ => if_neg (by omega))] at h
  exact h
 | succ m ih =>
  intro t O ht h
  refine Ev.step (f := fun k => _) (fun k => by rw [label_find.l3]) ?_
  refine Ev.pos (by omega) (Ev.pos (by omega) (Ev.pos (by rw [tb_length]; omega) (Ev.bind' (invG hd) ?_)))
  rw [tb_rd P N t (by omega)]
  refine Ev.bind' (mulG _ _) (Ev.pos (by rw [tb_length]; omega) ?_)
  rw [Int.toNat_natCast, tb_set, w64 (n := (t : Int) + 1) (by omega) (by omega)]
  refine ih (t + 1) _ (by omega) ?_
  rw [tb_congr (n := P) (f := fun j => if t + 1 ≤ j then d.inv * N j else (if j = t then N t * d.inv else O j)) (g := fun j => if t ≤ j then d.inv * N j else O j) (fun j _ => by
   by_cases e : j = t
   ·subst e; rw [if_neg (by omega), if_pos rfl, if_pos (Nat.le_refl _), Rs.GF.mul_comm]
   ·rw [if_neg e]
    by_cases h : t ≤ j
    ·rw [if_pos h, if_pos (by omega)]
    ·rw [if_neg h, if_neg (by omega)])]
  exact h
theorem find_l2 (s : List Int) (p g L r : Int) (P : Nat) (N O : PS) (d : GF) (res : List Int) (hP : P ≤ 1000) (m : Nat) : ∀ (t : Nat) (X : PS), t + m = P →
  Ev (fun k => if (wrap64 (2 * L)) ≤ (wrap64 (r + g)) then (label_find.l3 k s p g (tb P N) (tb P O) (wrap64 ((wrap64 ((wrap64 (r + g)) + 1)) - L)) r ((d.v : Nat) : Int) (tb P (fun j => if t ≤ j then N j + d * O j else X j)) ((tb P O).length : Int) 0) else (label_find.l0 k s p g (tb P (fun j => if t ≤ j then N j + d * O j else X j)) (tb P O) L (wrap64 (r + 1)))) res →
  Ev (fun k => label_find.l2 k s p g (tb P N) (tb P O) L r ((d.v : Nat) : Int) (tb P X) (P : Int) (t : Int)) res := by
 induction m with
 | zero =>
  intro t X ht h
  obtain rfl : t = P := by omega
  refine Ev.step (f := fun k => _) (fun k => by rw [label_find.l2]) ?_
  refine Ev.neg (by omega) ?_
  rw [tb_congr (n := t) (f := fun j => if t ≤ j then N j + d * O j else X j) (g := X) (fun j _ => if_neg (by omega))] at h
  exact h
 | succ m ih =>
  intro t X ht h
  refine Ev.step (f := fun k => _) (fun k => by rw [label_find.l2]) ?_
  refine Ev.pos (by omega) (Ev.pos (by omega) (Ev.pos (by rw [tb_length]; omega) (Ev.pos (by rw [tb_length]; omega) ?_)))
  rw [tb_rd P N t (by omega), tb_rd P O t (by omega)]
  refine Ev.bind' (mulG _ _) (Ev.pos (by rw [tb_length]; omega) ?_)
  rw [Int.toNat_natCast, xor8G, tb_set, w64 (n := (t : Int) + 1) (by omega) (by omega)]
  refine ih (t + 1) _ (by omega) ?_
  rw [tb_congr (n := P) (f := fun j => if t + 1 ≤ j then N j + d * O j else (if j = t then N t + d * O t else X j)) (g := fun j => if t ≤ j then N j + d * O j else X j) (fun j _ => by
   by_cases e : j = t
   ·subst e; rw [if_neg (by omega), if_pos rfl, if_pos (Nat.le_refl _)]
   ·rw [if_neg e]
    by_cases h : t ≤ j
    ·rw [if_pos h, if_pos (by omega)]
    ·rw [if_neg h, if_neg (by omega)])]
  exact h
theorem find_l1 (p g L : Int) (P r : Nat) (S N : PS) (O : List Int) (res : List Int) (hP : P ≤ 1000) (hr : r < P) (m : Nat) : ∀ (t : Nat), t + m = r + 1 →
  (cv r N S = 0 → Ev (fun k => label_find.l0 k (tb P S) p g (tb (P + 1) N) O L ((r + 1 : Nat) : Int)) res) →
  (cv r N S ≠ 0 → Ev (fun k => if 0 ≤ (wrap64 (p + 1)) then (if (wrap64 (p + 1) : Int).toNat ≤ 281474976710656 then ((some (List.replicate (wrap64 (p + 1) : Int).toNat 0 : List Int)).bind fun y170 => (label_find.l2 k (tb P S) p g (tb (P + 1) N) O L (r : Int) (((cv r N S).v : Nat) : Int) y170 (y170.length : Int) 0)) else (none)) else (none)) res) →
  Ev (fun k => label_find.l1 k (tb P S) p g (tb (P + 1) N) O L (r : Int) (((cv r (cut t N) S).v : Nat) : Int) ((r + 1 : Nat) : Int) (t : Int)) res := by
 induction m with
 | zero =>
  intro t ht h1 h2
  obtain rfl : t = r + 1 := by omega
  refine Ev.step (f := fun k => _) (fun k => by rw [label_find.l1]) ?_
  rw [Rs.cv_cut_all r (r + 1) N S (by omega)]
  refine Ev.neg (by omega) ?_
  by_cases e : cv r N S = 0
  ·refine Ev.pos ((v0 _).2 e) ?_
   rw [w64 (by omega) (by omega), show (r : Int) + 1 = ((r + 1 : Nat) : Int) from by omega]
   exact h1 e
  ·exact Ev.neg (fun e' => e ((v0 _).1 e')) (h2 e)
 | succ m ih =>
  intro t ht h1 h2
  refine Ev.step (f := fun k => _) (fun k => by rw [label_find.l1]) ?_
  rw [w64 (n := (r : Int) - t) (by omega) (by omega), w64 (n := (t : Int) + 1) (by omega) (by omega), show (r : Int) - t = ((r - t : Nat) : Int) from by omega]
  refine Ev.pos (by omega) (Ev.pos (by omega) (Ev.pos (by rw [tb_length]; omega) (Ev.pos (by omega) (Ev.pos (by rw [tb_length]; omega) ?_))))
  rw [tb_rd (P + 1) N t (by omega), tb_rd P S (r - t) (by omega)]
  refine Ev.bind' (mulG _ _) ?_
  have e := Rs.cv_cut t r N S
  rw [if_pos (by omega)] at e
  rw [xor8G, ← e]
  exact ih (t + 1) (by omega) h1 h2
theorem find_l0 (p g : Nat) (S : PS) (hp : p ≤ 500) (m : Nat) : ∀ (r L : Nat) (N O : PS), r + m = p → g ≤ L → L ≤ r →
  Ev (fun k => label_find.l0 k (tb p S) (p : Int) (g : Int) (tb (p + 1) N) (tb (p + 1) O) (L : Int) (r : Int)) (tb (p + 1) (bm S g m N O L r)) := by
 induction m with
 | zero =>
  intro r L N O hr h1 h2
  refine Ev.step (f := fun k => _) (fun k => by rw [label_find.l0]) ?_
  exact Ev.neg (by omega) (Ev.now _)
 | succ m ih =>
  intro r L N O hr h1 h2
  refine Ev.step (f := fun k => _) (fun k => by rw [label_find.l0]) ?_
  refine Ev.pos (by omega) (Ev.bind' rfl (Ev.pos (by omega) (Ev.pos (by rw [tb_length]; omega) (Ev.bind' rfl ?_))))
  rw [Int.toNat_natCast, tb_take p (p + 1) O (by omega)]
  have hsh : ([0] : List Int) ++ tb p O = tb (p + 1) (sh O) := by rw [tb_succ]; rfl
  rw [hsh, tb_length]
  refine Ev.pos (by simp; omega) ?_
  have hmn : mn (r : Int) (p : Int) = r := by unfold mn; rw [if_neg (by omega)]
  rw [hmn, w64 (n := (r : Int) + 1) (by omega) (by omega), show (r : Int) + 1 = ((r + 1 : Nat) : Int) from by omega]
  have e0 : (0 : Int) = (((cv r (cut 0 N) S).v : Nat) : Int) := by rw [cut_zero, Rs.cv_zero_left]; rfl
  have key := find_l1 (p : Int) (g : Int) (L : Int) p r S N (tb (p + 1) (sh O)) (tb (p + 1) (bm S g (m + 1) N O L r)) (by omega) (by omega) (r + 1) 0 (by omega)
   (fun hd => by
    unfold bm
    rw [if_pos hd]
    exact ih (r + 1) L N (sh O) (by omega) h1 (by omega))
   (fun hd => by
    rw [w64 (n := (p : Int) + 1) (by omega) (by omega), show (p : Int) + 1 = ((p + 1 : Nat) : Int) from by omega, Int.toNat_natCast]
    refine Ev.pos (by omega) (Ev.pos (by omega) (Ev.bind' rfl ?_))
    rw [List.length_replicate, tb_zero]
    refine find_l2 _ _ _ _ _ (p + 1) N (sh O) (cv r N S) _ (by omega) (p + 1) 0 _ (by omega) ?_
    rw [tb_congr (n := p + 1) (f := fun j => if 0 ≤ j then N j + cv r N S * sh O j else 0) (g := fun j => N j + cv r N S * sh O j) (fun j _ => if_pos (Nat.zero_le _)), tb_length]
    rw [w64 (n := 2 * (L : Int)) (by omega) (by omega), w64 (n := (r : Int) + g) (by omega) (by omega), w64 (n := (r : Int) + g + 1) (by omega) (by omega), w64 (n := (r : Int) + g + 1 - L) (by omega) (by omega)]
    unfold bm
    rw [if_neg hd]
    by_cases h : 2 * L ≤ r + g
    ·rw [if_pos h]
     refine Ev.pos (by omega) ?_
     refine find_l3 _ _ _ _ _ _ (p + 1) N (cv r N S) hd _ (by omega) (p + 1) 0 _ (by omega) ?_
     rw [tb_congr (n := p + 1) (f := fun j => if 0 ≤ j then (cv r N S).inv * N j else sh O j) (g := fun j => (cv r N S).inv * N j) (fun j _ => if_pos (Nat.zero_le _))]
     rw [w64 (by omega) (by omega), show (r : Int) + g + 1 - L = ((r + g + 1 - L : Nat) : Int) from by omega, show (r : Int) + 1 = ((r + 1 : Nat) : Int) from by omega]
     exact ih (r + 1) _ _ _ (by omega) (by omega) (by omega)
    ·rw [if_neg h]
     refine Ev.neg (by omega) ?_
     rw [w64 (by omega) (by omega), show (r : Int) + 1 = ((r + 1 : Nat) : Int) from by omega]
     exact ih (r + 1) _ _ _ (by omega) h1 (by omega))
  rw [← e0] at key
  exact key
theorem extendG (n m : Nat) (f : PS) (hf : ∀ k, n ≤ k → f k = 0) (hn : n ≤ m) (hm : m ≤ 1000) : Hand.label_extend.f (tb n f) (m : Int) = some (tb m f) := by
 unfold Hand.label_extend.f
 rw [if_pos (by omega), if_pos (by omega), if_pos (by rw [tb_length]; omega), Int.toNat_natCast, tb_length, tb_zero, tb_append, show n + (m - n) = m from by omega]
 congr 1
 refine tb_congr fun j _ => ?_
 by_cases h : j < n
 ·rw [if_pos h]
 ·rw [if_neg h]; exact (hf j (by omega)).symm
theorem findG (p g : Nat) (S G : PS) (hp : p ≤ 500) (hg : g ≤ p) (hG : ∀ k, g + 1 ≤ k → G k = 0) : Ev (fun k => label_find.f k (tb p S) (tb (g + 1) G)) (tb (p + 1) (bm S g (p - g) G G g g)) := by
 unfold label_find.f
 rw [tb_length, tb_length, w64 (n := (p : Int) + 1) (by omega) (by omega), w64 (n := ((g + 1 : Nat) : Int) - 1) (by omega) (by omega), show (p : Int) + 1 = ((p + 1 : Nat) : Int) from by omega, show ((g + 1 : Nat) : Int) - 1 = (g : Int) from by omega]
 exact Ev.bind' (extendG (g + 1) (p + 1) G hG (by omega) (by omega)) (Ev.bind' (extendG (g + 1) (p + 1) G hG (by omega) (by omega)) (find_l0 p g S hp (p - g) g g G G (by omega) (Nat.le_refl _) (Nat.le_refl _)))
open Rs (PS GF hv gen nx en cut wd cv st sh tl loc dl dv ev cnt)
open Rs.GF (al)
def fx (n p : Nat) (S W : PS) (i : Nat) : GF :=
 let x := al (n - 1 - i)
 if ev (p + 1) W x.inv = 0 then (if ev p (dv W) x.inv = 0 then 0 else x * (ev p (fun k => cv k S W) x.inv * (ev p (dv W) x.inv).inv)) else 0
theorem repair_l0 (n p : Nat) (w S W : PS) (hn : n ≤ 255) (hp : p ≤ 500) (m : Nat) : ∀ (i : Nat), i + m = n →
  Ev (fun k => label_repair.l0 k (tb (p + 1) W) (tb n (fun j => if j < i then w j + fx n p S W j else w j)) (tb p (fun k => cv k S W)) (tb p (dv W)) (n : Int) (i : Int)) (tb n (fun j => w j + fx n p S W j)) := by
 induction m with
 | zero =>
  intro i hi
  obtain rfl : i = n := by omega
  refine Ev.step (f := fun k => _) (fun k => by rw [label_repair.l0]) ?_
  refine Ev.neg (by omega) ?_
  rw [tb_congr (n := i) (f := fun j => if j < i then w j + fx i p S W j else w j) (g := fun j => w j + fx i p S W j) (fun j hj => if_pos hj)]
  exact Ev.now _
 | succ m ih =>
  intro i hi
  refine Ev.step (f := fun k => _) (fun k => by rw [label_repair.l0]) ?_
  have e := ih (i + 1) (by omega)
  rw [tb_length, w64 (n := (n : Int) - 1) (by omega) (by omega), w64 (n := (n : Int) - 1 - i) (by omega) (by omega), w64 (n := (i : Int) + 1) (by omega) (by omega), show (n : Int) - 1 - (i : Int) = ((n - 1 - i : Nat) : Int) from by omega, show (i : Int) + 1 = ((i + 1 : Nat) : Int) from by omega]
  refine Ev.pos (by omega) (Ev.bind' (expG _ (by omega)) (Ev.bind' (invG (Rs.GF.al_ne _)) (Ev.bind (evalG (p + 1) W _ (by omega)) ?_)))
  have keep : fx n p S W i = 0 → Ev (fun k => label_repair.l0 k (tb (p + 1) W) (tb n (fun j => if j < i then w j + fx n p S W j else w j)) (tb p (fun k => cv k S W)) (tb p (dv W)) (n : Int) ((i + 1 : Nat) : Int)) (tb n (fun j => w j + fx n p S W j)) := by
   intro h0
   rw [tb_congr (n := n) (f := fun j => if j < i + 1 then w j + fx n p S W j else w j) (g := fun j => if j < i then w j + fx n p S W j else w j) (fun j _ => by
    by_cases e : j = i
    ·subst e; rw [if_pos (by omega), if_neg (by omega), h0, Rs.GF.add_zero]
    ·by_cases h : j < i
     ·rw [if_pos h, if_pos (by omega)]
     ·rw [if_neg h, if_neg (by omega)])] at e
   exact e
  by_cases h1 : ev (p + 1) W (al (n - 1 - i)).inv = 0
  ·refine Ev.pos ((v0 _).2 h1) (Ev.bind (evalG p (dv W) _ (by omega)) ?_)
   by_cases h2 : ev p (dv W) (al (n - 1 - i)).inv = 0
   ·refine Ev.pos ((v0 _).2 h2) (keep ?_)
    show (if ev (p + 1) W (al (n - 1 - i)).inv = 0 then (if ev p (dv W) (al (n - 1 - i)).inv = 0 then (0 : GF) else _) else 0) = 0
    rw [if_pos h1, if_pos h2]
   ·refine Ev.neg (fun e' => h2 ((v0 _).1 e')) (Ev.pos (by omega) (Ev.pos (by omega) ?_))
    refine Ev.bind (evalG p _ _ (by omega)) (Ev.bind' (invG h2) (Ev.bind' (mulG _ _) (Ev.bind' (mulG _ _) ?_)))
    rw [tb_rd n _ i (by omega), if_neg (by omega), xor8G, Int.toNat_natCast, tb_set]
    have hfx : fx n p S W i = al (n - 1 - i) * (ev p (fun k => cv k S W) (al (n - 1 - i)).inv * (ev p (dv W) (al (n - 1 - i)).inv).inv) := by
     show (if ev (p + 1) W (al (n - 1 - i)).inv = 0 then (if ev p (dv W) (al (n - 1 - i)).inv = 0 then (0 : GF) else _) else 0) = _
     rw [if_pos h1, if_neg h2]
    rw [← hfx]
    rw [tb_congr (n := n) (f := fun j => if j < i + 1 then w j + fx n p S W j else w j) (g := fun j => if j = i then w i + fx n p S W i else (if j < i then w j + fx n p S W j else w j)) (fun j _ => by
     by_cases e : j = i
     ·subst e; rw [if_pos (by omega), if_pos rfl]
     ·rw [if_neg e]
      by_cases h : j < i
      ·rw [if_pos h, if_pos (by omega)]
      ·rw [if_neg h, if_neg (by omega)])] at e
    exact e
  ·refine Ev.neg (fun e' => h1 ((v0 _).1 e')) (keep ?_)
   show (if ev (p + 1) W (al (n - 1 - i)).inv = 0 then (if ev p (dv W) (al (n - 1 - i)).inv = 0 then (0 : GF) else _) else 0) = 0
   rw [if_neg h1]
theorem repairG (n p : Nat) (w S W : PS) (hn : n ≤ 255) (hp : p ≤ 500) : Ev (fun k => label_repair.f k (tb n w) (tb p S) (tb (p + 1) W)) (tb n (fun j => w j + fx n p S W j)) := by
 unfold label_repair.f
 refine Ev.bind' rfl (Ev.pos (by rw [tb_length]; simp; omega) (Ev.bind' rfl ?_))
 rw [List.nil_append, tb_length, tb_length]
 have e := timesG p (p + 1) p S W (by omega) (by omega) (by omega)
 rw [tb_congr (n := p) (f := fun j => cv j (cut p S) (cut (p + 1) W)) (g := fun j => cv j S W) (fun j hj => by
  rw [Rs.cv_cut_all j p S _ hj, Rs.cv_comm, Rs.cv_cut_all j (p + 1) W _ (by omega), Rs.cv_comm])] at e
 refine Ev.bind' e (Ev.bind (slopeG p W (by omega)) ?_)
 have e2 := repair_l0 n p w S W hn hp n 0 (by omega)
 rw [tb_congr (n := n) (f := fun j => if j < 0 then w j + fx n p S W j else w j) (g := w) (fun j _ => if_neg (by omega))] at e2
 exact e2
open Rs (PS GF hv gen nx en cut wd cv st sh tl loc dl dv ev cnt)
open Rs.GF (al)
def dis : List Nat → List Nat → List Nat
 | [], out => out
 | i :: l, out => if i ∈ out then dis l out else dis l (out ++ [i])
theorem ql_mem (i : Nat) (L : List Nat) : (i : Int) ∈ ql L ↔ i ∈ L := by
 unfold ql
 rw [List.mem_map]
 constructor
 ·rintro ⟨j, h, e⟩
  have : j = i := by omega
  exact this ▸ h
 ·intro h; exact ⟨i, h, rfl⟩
theorem ql_snoc (L : List Nat) (i : Nat) : ql L ++ [(i : Int)] = ql (L ++ [i]) := by unfold ql; rw [List.map_append]; rfl
theorem spL_ql (n : Nat) (l : List Nat) : ∀ out, (∀ i, i ∈ l → i < n) → Hand.spL (n : Int) (ql l) (ql out) = some (ql (dis l out)) := by
 induction l with
 | nil => intro out _; rfl
 | cons i l ih =>
  intro out h
  have hi := h i (by simp)
  show (if (i : Int) < 0 ∨ (n : Int) ≤ (i : Int) then none else if (i : Int) ∈ ql out then Hand.spL (n : Int) (ql l) (ql out) else Hand.spL (n : Int) (ql l) (ql out ++ [(i : Int)])) = some (ql (if i ∈ out then dis l out else dis l (out ++ [i])))
  rw [if_neg (by omega), ql_snoc]
  by_cases hm : i ∈ out
  ·rw [if_pos ((ql_mem i out).2 hm), if_pos hm]; exact ih out (fun j hj => h j (by simp [hj]))
  ·rw [if_neg (fun e => hm ((ql_mem i out).1 e)), if_neg hm]; exact ih _ (fun j hj => h j (by simp [hj]))
theorem dis_mem (l : List Nat) : ∀ out i, i ∈ dis l out ↔ i ∈ out ∨ i ∈ l := by
 induction l with
 | nil => intro out i; simp [dis]
 | cons j l ih =>
  intro out i
  unfold dis
  by_cases h : j ∈ out
  ·rw [if_pos h, ih]
   constructor
   ·rintro (h1 | h1)
    ·exact .inl h1
    ·exact .inr (by simp [h1])
   ·rintro (h1 | h1)
    ·exact .inl h1
    ·rcases List.mem_cons.1 h1 with rfl | h1
     ·exact .inl h
     ·exact .inr h1
  ·rw [if_neg h, ih]
   simp only [List.mem_append, List.mem_singleton, List.mem_cons, or_assoc, List.not_mem_nil, or_false]
theorem dis_nodup (l : List Nat) : ∀ out, out.Nodup → (dis l out).Nodup := by
 induction l with
 | nil => intro out h; exact h
 | cons j l ih =>
  intro out h
  unfold dis
  by_cases hj : j ∈ out
  ·rw [if_pos hj]; exact ih out h
  ·rw [if_neg hj]
   refine ih _ (List.nodup_append.2 ⟨h, by simp, ?_⟩)
   intro a ha b hb e
   obtain rfl := List.mem_singleton.1 hb
   exact hj (e ▸ ha)
theorem spotsG (n : Nat) (l : List Nat) (hn : n ≤ 255) (hl : l.length ≤ 255) (h : ∀ i, i ∈ l → i < n) : Hand.label_spots.f (ql l) (n : Int) = some (ql (dis l []), true) := by
 unfold Hand.label_spots.f
 rw [if_neg (by rw [ql_length]; omega), if_pos (by omega)]
 have := spL_ql n l [] h
 rw [show ql [] = [] from rfl] at this
 rw [this]
def oth (D : List Nat) (f : PS) : PS := fun j => if j ∈ D then 0 else f j
theorem cnt_from (f : PS) (i m : Nat) : cnt (m + 1) (fun j => f (i + j)) = (if f i = 0 then 0 else 1) + cnt m (fun j => f (i + 1 + j)) := by
 show (if f (i + 0) = 0 then 0 else 1) + cnt m (tl fun j => f (i + j)) = _
 rw [show (tl fun j => f (i + j)) = fun j => f (i + 1 + j) from funext fun j => by show f (i + (j + 1)) = _; congr 1; omega]; rfl
theorem chg_tb (n : Nat) (w o : PS) (D : List Nat) (X : PS) (hX : X = fun j => w j + o j) (m : Nat) : ∀ (i : Nat) (a b : Nat), i + m = n →
  Hand.chg (tb n o) (ql D) (tb m (fun j => w (i + j))) i (a : Int) (b : Int) = (((a + cnt m (fun j => X (i + j)) : Nat) : Int), ((b + cnt m (fun j => oth D X (i + j)) : Nat) : Int)) := by
 induction m with
 | zero => intro i a b _; rfl
 | succ m ih =>
  intro i a b hi
  have e1 : tl (fun j => w (i + j)) = fun j => w (i + 1 + j) := funext fun j => by show w (i + (j + 1)) = _; congr 1; omega
  rw [tb_succ, e1, cnt_from X, cnt_from (oth D X)]
  show (if ((w (i + 0)).v : Int) = rd (tb n o) i then Hand.chg _ _ (tb m (fun j => w (i + 1 + j))) (i + 1) _ _ else if (i : Int) ∈ ql D then Hand.chg _ _ (tb m (fun j => w (i + 1 + j))) (i + 1) _ _ else Hand.chg _ _ (tb m (fun j => w (i + 1 + j))) (i + 1) _ _) = _
  rw [tb_rd n o i (by omega), show i + 0 = i from rfl]
  have hXi : X i = w i + o i := by rw [hX]
  by_cases h : w i = o i
  ·have h0 : X i = 0 := by rw [hXi, h, Rs.GF.add_self]
   have h1 : oth D X i = 0 := by unfold oth; rw [h0]; split <;> rfl
   rw [if_pos (by rw [h]), ih (i + 1) a b (by omega), if_pos h0, if_pos h1, Nat.zero_add, Nat.zero_add]
  ·have h0 : X i ≠ 0 := by rw [hXi]; exact Rs.GF.add_ne h
   rw [if_neg (fun e => h (Rs.GF.ext (by omega))), if_neg h0]
   by_cases hD : i ∈ D
   ·have h1 : oth D X i = 0 := by unfold oth; rw [if_pos hD]
    have := ih (i + 1) (a + 1) b (by omega)
    rw [if_pos ((ql_mem i D).2 hD), if_pos h1, show (a : Int) + 1 = ((a + 1 : Nat) : Int) from by omega, this, Nat.zero_add, Nat.add_assoc]
   ·have h1 : oth D X i ≠ 0 := by unfold oth; rw [if_neg hD]; exact h0
    have := ih (i + 1) (a + 1) (b + 1) (by omega)
    rw [if_neg (fun e => hD ((ql_mem i D).1 e)), if_neg h1, show (a : Int) + 1 = ((a + 1 : Nat) : Int) from by omega, show (b : Int) + 1 = ((b + 1 : Nat) : Int) from by omega, this, Nat.add_assoc, Nat.add_assoc]
theorem ql_small (D : List Nat) (h : ∀ i, i ∈ D → i < 100000) : Hand.smallB (ql D) = true := List.all_eq_true.2 fun x hx => by
 obtain ⟨i, hi, rfl⟩ := List.mem_map.1 hx
 exact decide_eq_true (by have := h i hi; omega)
theorem changesG (n : Nat) (w o : PS) (D : List Nat) (hn : n ≤ 1000) (hD : D.length ≤ 1000) (h : ∀ i, i ∈ D → i < 100000) :
  Hand.label_changes.f (tb n w) (tb n o) (ql D) = some (((cnt n (fun j => w j + o j) : Nat) : Int), ((cnt n (oth D (fun j => w j + o j)) : Nat) : Int)) := by
 unfold Hand.label_changes.f
 rw [if_pos ⟨by rw [tb_length, tb_length]; exact Nat.le_refl _, by rw [tb_length]; omega, by rw [ql_length]; omega, ql_small D h⟩]
 have e := chg_tb n w o D (fun j => w j + o j) rfl n 0 0 0 (by omega)
 simp only [Nat.zero_add] at e
 congr 1
def outf (n p : Nat) (w : PS) (D : List Nat) : PS :=
 if zB p (sy n w) = true then w else fun j => w j + fx n p (sy n w) (bm (sy n w) D.length (p - D.length) (loc (pl n D)) (loc (pl n D)) D.length D.length) j
theorem decOutG (n p : Nat) (w : PS) (D : List Nat) (hn : n ≤ 255) (hp : p ≤ 64) (hD : ∀ i, i ∈ D → i < n) (hl : D.length ≤ p) : Ev (fun k => decOut k (tb n w) (p : Int) (ql D)) (zB p (sy n w), tb n (outf n p w D)) := by
 unfold decOut outf
 refine Ev.bind (synG n p w (by omega) (by omega)) (Ev.bind (zeroG p _ (by omega)) ?_)
 cases hz : zB p (sy n w) with
 | true => exact Ev.pos rfl (Ev.now _)
 | false =>
  rw [tb_length]
  refine Ev.neg (by simp) (Ev.bind (locatorG n D hn hD (by omega)) (Ev.bind (findG p D.length _ _ (by omega) hl (fun k hk => Rs.loc_deg _ k (by unfold pl; rw [List.length_map]; exact hk))) (Ev.bind (repairG n p w _ _ hn (by omega)) (Ev.now _))))
def decRes (n p : Nat) (w : PS) (D : List Nat) : ByteArray × Int × Int :=
 if 2 * cnt n (oth D (fun j => w j + outf n p w D j)) + D.length > p then (⟨#[]⟩, 0, 6) else
 if zB p (sy n (outf n p w D)) = true then (strOfNums (tb (n - p) (outf n p w D)), ((cnt n (fun j => w j + outf n p w D j) : Nat) : Int), 0) else (⟨#[]⟩, 0, 6)
theorem decEndG (n p : Nat) (w : PS) (D : List Nat) (hn : n ≤ 255) (hp : p ≤ 64) (hpn : p < n) (hD : ∀ i, i ∈ D → i < n) (hl : D.length ≤ p) : Ev (fun k => decEnd k (tb n w) (p : Int) (ql D) (tb n (outf n p w D))) (decRes n p w D) := by
 unfold decEnd decRes
 refine Ev.bind' (changesG n w _ D (by omega) (by omega) (fun i hi => by have := hD i hi; omega)) ?_
 have hc := Rs.cnt_le n (oth D (fun j => w j + outf n p w D j))
 rw [tb_length, ql_length]
 refine Ev.pos ⟨by omega, by omega, by omega, by omega, by omega⟩ ?_
 by_cases h : 2 * cnt n (oth D (fun j => w j + outf n p w D j)) + D.length > p
 ·rw [if_pos h]; exact Ev.pos (by omega) (Ev.now _)
 ·rw [if_neg h]
  refine Ev.neg (by omega) (Ev.bind (synG n p _ (by omega) (by omega)) (Ev.bind (zeroG p _ (by omega)) ?_))
  by_cases hz : zB p (sy n (outf n p w D)) = true
  ·refine Ev.pos hz ?_
   rw [if_pos hz, show ((n : Int) - p).toNat = n - p from by omega, tb_take (n - p) n _ (by omega)]
   exact Ev.now _
  ·refine Ev.neg hz ?_
   rw [if_neg hz]
   exact Ev.now _
theorem DecodeG (n p : Nat) (w : PS) (l : List Nat) (hn : n ≤ 255) (hp : p ≤ 64) (hpn : p < n) (hl : l.length ≤ 255) (h : ∀ i, i ∈ l → i < n) :
  Ev (fun k => label_Decode.f k (strOfNums (tb n w)) (p : Int) (ql l)) (if (dis l []).length > p then (⟨#[]⟩, 0, 6) else decRes n p w (dis l [])) := by
 unfold label_Decode.f
 rw [str_size, bytes_tb]
 refine Ev.pos (by omega) (Ev.bind' (spotsG n l hn hl h) (Ev.bind' (parG n p hp) ?_))
 refine Ev.neg (by simp; omega) (Ev.neg (by simp) (Ev.pos (by omega) ?_))
 have hm : ∀ i, i ∈ dis l [] → i < n := fun i hi => h i (((dis_mem l [] i).1 hi).resolve_left (by simp))
 show Ev (fun k => if ((ql (dis l [])).length : Int) > (p : Int) then some (⟨#[]⟩, 0, 6) else (decOut k (tb n w) (p : Int) (ql (dis l []))).bind fun o => decEnd k (tb n w) (p : Int) (ql (dis l [])) o.2) _
 rw [ql_length]
 by_cases hg : (dis l []).length > p
 ·rw [if_pos hg]; exact Ev.pos (by omega) (Ev.now _)
 ·rw [if_neg hg]
  exact Ev.neg (by omega) (Ev.bind (decOutG n p w _ hn hp hm (by omega)) (decEndG n p w _ hn hp hpn hm (by omega)))
open Rs (PS GF hv gen nx en cut wd cv st sh tl loc dl dv ev cnt ps om nz spf Sp Bm)
open Rs.GF (al)
theorem cv_loc_sh (k : Nat) (A b : PS) : sh (fun k => cv k A b) k = cv k A (sh b) := by
 rw [Rs.cv_comm k A (sh b), Rs.cv_sh]
 cases k with
 | zero => rfl
 | succ k => exact Rs.cv_comm k A b
theorem cv_free (r : Nat) (A c S : PS) : cv r (fun k => cv k A c) S = cv r c (fun k => cv k A S) := by
 rw [Rs.cv_assoc, Rs.cv_left_comm]
theorem bm_ok (S A sg : PS) (g v p : Nat) (s0 : sg 0 = 1) (sd : ∀ k, v < k → sg k = 0) (sz : ∀ j, g + v ≤ j → j < p → cv j sg (fun k => cv k A S) = 0) (m : Nat) : ∀ (r len : Nat) (c b : PS), r + m = p → Bm (fun k => cv k A S) g v r c b len →
  ∃ c' b' len', Bm (fun k => cv k A S) g v p c' b' len' ∧ bm S g m (fun k => cv k A c) (fun k => cv k A b) len r = fun k => cv k A c' := by
 induction m with
 | zero =>
  intro r len c b hr h
  obtain rfl : r = p := by omega
  exact ⟨c, b, len, h, rfl⟩
 | succ m ih =>
  intro r len c b hr h
  unfold bm
  rw [cv_free, show sh (fun k => cv k A b) = fun k => cv k A (sh b) from funext fun k => cv_loc_sh k A b]
  by_cases hd : cv r c (fun k => cv k A S) = 0
  ·rw [if_pos hd]
   exact ih (r + 1) len c (sh b) (by omega) (h.same hd)
  ·rw [if_neg hd]
   have e1 : (fun j => cv j A c + cv r c (fun k => cv k A S) * cv j A (sh b)) = fun j => cv j A (fun k => c k + cv r c (fun k => cv k A S) * sh b k) := by
    funext j; rw [Rs.cv_add_right, Rs.cv_smul_right]
   rw [e1]
   by_cases h2 : 2 * len ≤ r + g
   ·rw [if_pos h2]
    have e2 : (fun j => (cv r c (fun k => cv k A S)).inv * cv j A c) = fun j => cv j A (fun k => (cv r c (fun k => cv k A S)).inv * c k) := by
     funext j; rw [Rs.cv_smul_right]
    rw [e2]
    exact ih (r + 1) _ _ _ (by omega) (h.turn s0 sd sz (by omega) hd h2)
   ·rw [if_neg h2]
    exact ih (r + 1) _ _ _ (by omega) (h.keep h2)
def lst (n : Nat) (e : PS) (D : List Nat) : Sp := D.map fun i => (al (n - 1 - i), e i)
def frs (n : Nat) (e : PS) (D : List Nat) : Sp := nz (spf n (oth D e))
theorem lst_fst (n : Nat) (e : PS) (D : List Nat) : (lst n e D).map Prod.fst = pl n D := by unfold lst pl; rw [List.map_map]; rfl
theorem hv_dlt (x : GF) (n : Nat) : ∀ i, i < n → hv n (Rs.dlt i) x = x.pow (n - 1 - i) := by
 induction n with
 | zero => intro i h; omega
 | succ n ih =>
  intro i h
  cases i with
  | zero =>
   show Rs.dlt 0 0 * x.pow n + hv n (tl (Rs.dlt 0)) x = x.pow n
   rw [Rs.hv_none n x _ (fun j _ => by show (if j + 1 = 0 then (1 : GF) else 0) = 0; rw [if_neg (by omega)]), show Rs.dlt 0 0 = 1 from rfl, Rs.GF.one_mul, Rs.GF.add_zero]
  | succ i =>
   show Rs.dlt (i + 1) 0 * x.pow n + hv n (tl (Rs.dlt (i + 1))) x = _
   rw [show tl (Rs.dlt (i + 1)) = Rs.dlt i from funext fun t => by show (if t + 1 = i + 1 then (1 : GF) else 0) = if t = i then 1 else 0; simp only [Nat.add_right_cancel_iff]]
   rw [show Rs.dlt (i + 1) 0 = 0 from rfl, Rs.GF.zero_mul, Rs.GF.zero_add, ih i (by omega), show n - 1 - i = n + 1 - 1 - (i + 1) from by omega]
theorem oth_cons (i : Nat) (D : List Nat) (e : PS) (h : i ∉ D) : oth D e = fun j => oth (i :: D) e j + e i * Rs.dlt i j := by
 funext j
 unfold oth Rs.dlt
 by_cases ej : j = i
 ·subst ej; rw [if_neg h, if_pos (by simp), if_pos rfl, Rs.GF.mul_one, Rs.GF.zero_add]
 ·rw [if_neg ej, Rs.GF.mul_zero, Rs.GF.add_zero]
  by_cases hD : j ∈ D
  ·rw [if_pos hD, if_pos (by simp [hD])]
  ·rw [if_neg hD, if_neg (by simp [hD, ej])]
theorem hv_lost (n i : Nat) (e : PS) (D : List Nat) (hn : D.Nodup) (hD : ∀ j, j ∈ D → j < n) : hv n e (al i) = ps (lst n e D) i + ps (frs n e D) i := by
 unfold frs
 rw [Rs.nz_ps, ← Rs.hv_ps]
 induction D with
 | nil =>
  rw [show oth [] e = e from funext fun j => by unfold oth; rw [if_neg (by simp)]]
  exact (Rs.GF.zero_add _).symm
 | cons j D ih =>
  rw [ih (List.nodup_cons.1 hn).2 (fun k hk => hD k (by simp [hk])), oth_cons j D e (List.nodup_cons.1 hn).1, Rs.hv_add, Rs.hv_smul, hv_dlt _ _ _ (hD j (by simp))]
  show ps (lst n e D) i + (_ + e j * (al i).pow (n - 1 - j)) = e j * (al (n - 1 - j)).pow i + ps (lst n e D) i + _
  rw [Rs.pow_al, Rs.pow_al, Nat.mul_comm]
  ac_rfl
theorem frs_mem {n : Nat} {e : PS} {D : List Nat} {Xe : GF × GF} (h : Xe ∈ frs n e D) : ∃ j, j < n ∧ j ∉ D ∧ e j ≠ 0 ∧ Xe = (al (n - 1 - j), e j) := by
 obtain ⟨h1, h2⟩ := List.mem_filter.1 h
 obtain ⟨j, hj, rfl⟩ := Rs.spf_mem n _ _ h1
 have h3 : oth D e j ≠ 0 := of_decide_eq_true h2
 by_cases hD : j ∈ D
 ·exact absurd (show oth D e j = 0 by unfold oth; rw [if_pos hD]) h3
 ·have : oth D e j = e j := by unfold oth; rw [if_neg hD]
  rw [this] at h3
  exact ⟨j, hj, hD, h3, by rw [this]⟩
theorem mem_frs {n : Nat} {e : PS} {D : List Nat} {j : Nat} (hj : j < n) (hD : j ∉ D) (he : e j ≠ 0) : (al (n - 1 - j), e j) ∈ frs n e D := by
 have : oth D e j = e j := by unfold oth; rw [if_neg hD]
 refine List.mem_filter.2 ⟨?_, decide_eq_true he⟩
 have h := Rs.mem_spf n (oth D e) j hj
 rw [this] at h; exact h
theorem frs_length (n : Nat) (e : PS) (D : List Nat) : (frs n e D).length = cnt n (oth D e) := Rs.nz_length n _
theorem pl_mem {n : Nat} {D : List Nat} (hN : n ≤ 255) (hD : ∀ j, j ∈ D → j < n) {j : Nat} (hj : j < n) : al (n - 1 - j) ∈ pl n D ↔ j ∈ D := by
 unfold pl
 rw [List.mem_map]
 constructor
 ·rintro ⟨i, hi, e⟩
  have := hD i hi
  have := Rs.GF.al_inj (by omega) (by omega) e
  obtain rfl : i = j := by omega
  exact hi
 ·intro h; exact ⟨j, h, rfl⟩
theorem pl_nodup {n : Nat} (hN : n ≤ 255) : ∀ (D : List Nat), D.Nodup → (∀ j, j ∈ D → j < n) → (pl n D).Nodup := by
 intro D
 induction D with
 | nil => intro _ _; exact List.nodup_nil
 | cons i D ih =>
  intro hn hD
  refine List.nodup_cons.2 ⟨fun hm => ?_, ih (List.nodup_cons.1 hn).2 (fun j hj => hD j (by simp [hj]))⟩
  exact (List.nodup_cons.1 hn).1 ((pl_mem hN (fun j hj => hD j (by simp [hj])) (hD i (by simp))).1 hm)
theorem all_nodup {n : Nat} (hN : n ≤ 255) (e : PS) (D : List Nat) (hn : D.Nodup) (hD : ∀ j, j ∈ D → j < n) : ((lst n e D ++ frs n e D).map Prod.fst).Nodup := by
 rw [List.map_append, lst_fst]
 refine List.nodup_append.2 ⟨pl_nodup hN D hn hD, Rs.nz_nodup n _ hN, ?_⟩
 intro a ha b hb hab
 obtain ⟨Xe, hm, rfl⟩ := List.mem_map.1 hb
 obtain ⟨j, hj, hjD, _, rfl⟩ := frs_mem hm
 rw [hab] at ha
 exact hjD ((pl_mem hN hD hj).1 ha)
theorem mem_all {n : Nat} {e : PS} {D : List Nat} {j : Nat} (hj : j < n) (h : j ∈ D ∨ e j ≠ 0) : (al (n - 1 - j), e j) ∈ lst n e D ++ frs n e D := by
 by_cases hD : j ∈ D
 ·exact List.mem_append.2 (.inl (List.mem_map.2 ⟨j, hD, rfl⟩))
 ·exact List.mem_append.2 (.inr (mem_frs hj hD (h.resolve_left hD)))
theorem freed_fst (G : List GF) (E : Sp) : (E.map (Rs.freed G)).map Prod.fst = E.map Prod.fst := by rw [List.map_map]; rfl
theorem bm_loc (n p : Nat) (S e : PS) (D : List Nat) (hN : n ≤ 255) (hn : D.Nodup) (hD : ∀ j, j ∈ D → j < n) (hS : ∀ i, i < p → S i = hv n e (al i)) (hp : D.length + 2 * cnt n (oth D e) ≤ p) :
  bm S D.length (p - D.length) (loc (pl n D)) (loc (pl n D)) D.length D.length = loc ((lst n e D ++ frs n e D).map Prod.fst) := by
 have hG : (pl n D).length = D.length := by unfold pl; rw [List.length_map]
 have hE : (frs n e D).length = cnt n (oth D e) := frs_length n e D
 have hT : ∀ j, D.length ≤ j → j < p → cv j (loc (pl n D)) S = ps ((frs n e D).map (Rs.freed (pl n D))) (j - D.length) := by
  intro j h1 h2
  rw [Rs.cv_congr j _ (loc (pl n D)) S (fun k => ps (lst n e D) k + ps (frs n e D) k) (fun _ _ => rfl) (fun i hi => by rw [hS i (by omega), hv_lost n i e D hn hD]), Rs.cv_add_right]
  have a1 := Rs.cv_loc_ps (lst n e D) j
  rw [lst_fst] at a1
  rw [a1, Rs.om_deg _ j (by unfold lst; rw [List.length_map]; exact h1), Rs.GF.zero_add, Rs.loc_ps _ _ j (by rw [hG]; exact h1), hG]
 have sz : ∀ j, D.length + cnt n (oth D e) ≤ j → j < p → cv j (loc ((frs n e D).map Prod.fst)) (fun k => cv k (loc (pl n D)) S) = 0 := by
  intro j h1 h2
  have e1 := Rs.cv_later D.length (j - D.length) (loc ((frs n e D).map Prod.fst)) (fun k => cv k (loc (pl n D)) S) (fun i hi => Rs.loc_deg _ i (by rw [List.length_map, hE]; omega))
  rw [show j - D.length + D.length = j from by omega] at e1
  rw [e1, Rs.cv_congr (j - D.length) _ (loc ((frs n e D).map Prod.fst)) _ (ps ((frs n e D).map (Rs.freed (pl n D)))) (fun _ _ => rfl) (fun i hi => by rw [hT (i + D.length) (by omega) (by omega), show i + D.length - D.length = i from by omega])]
  have a2 := Rs.cv_loc_ps ((frs n e D).map (Rs.freed (pl n D))) (j - D.length)
  rw [freed_fst] at a2
  rw [a2]; exact Rs.om_deg _ _ (by rw [List.length_map, hE]; omega)
 obtain ⟨c, b, len, h, hb⟩ := bm_ok S (loc (pl n D)) (loc ((frs n e D).map Prod.fst)) D.length (cnt n (oth D e)) p (Rs.loc_zero _) (fun k hk => Rs.loc_deg _ k (by rw [List.length_map, hE]; omega)) sz (p - D.length) D.length D.length dl dl (by omega) (Bm.start _ _ _)
 rw [show (fun k => cv k (loc (pl n D)) dl) = loc (pl n D) from funext fun k => by rw [Rs.cv_comm, Rs.cv_dl]] at hb
 rw [hb]
 have lv := h.lv
 obtain ⟨_, hc⟩ := Rs.gen_unique ((frs n e D).map (Rs.freed (pl n D))) (fun k => cv k (loc (pl n D)) S) D.length p len c
  (by rw [freed_fst]; exact Rs.nz_nodup n _ hN)
  (fun Xe hm => by
   obtain ⟨Ye, hy, rfl⟩ := List.mem_map.1 hm
   obtain ⟨j, hj, hjD, hje, rfl⟩ := frs_mem hy
   exact Rs.freed_ne _ _ _ hje (fun hx => hjD ((pl_mem hN hD hj).1 hx)))
  hT h.c0 h.gl h.cd (by rw [List.length_map, hE]; exact lv) (by rw [List.length_map, hE]; omega) h.cz
 rw [freed_fst] at hc
 funext k
 rw [Rs.cv_congr k _ (loc (pl n D)) c (loc ((frs n e D).map Prod.fst)) (fun _ _ => rfl) (fun i _ => hc i), Rs.loc_append, List.map_append, lst_fst]
theorem inv_one {X Y : GF} (h : X * Y.inv = 1) (hY : Y ≠ 0) : X = Y := by
 have : X * Y.inv * Y = Y := by rw [h, Rs.GF.one_mul]
 rw [Rs.GF.mul_assoc, Rs.GF.mul_comm Y.inv, Rs.GF.mul_inv hY, Rs.GF.mul_one] at this
 exact this
theorem fx_mends (n p : Nat) (S e : PS) (D : List Nat) (hN : n ≤ 255) (hn : D.Nodup) (hD : ∀ j, j ∈ D → j < n) (hS : ∀ i, i < p → S i = hv n e (al i)) (hp : D.length + 2 * cnt n (oth D e) ≤ p) (j : Nat) (hj : j < n) :
  fx n p S (loc ((lst n e D ++ frs n e D).map Prod.fst)) j = e j := by
 have hL : (lst n e D ++ frs n e D).length ≤ p := by rw [List.length_append, frs_length]; unfold lst; rw [List.length_map]; omega
 have hnd := all_nodup hN e D hn hD
 have hne := Rs.GF.al_ne (n - 1 - j)
 have hloc := Rs.ev_loc ((lst n e D ++ frs n e D).map Prod.fst) (p + 1) (al (n - 1 - j)).inv (by rw [List.length_map]; omega)
 have ld : ∀ k, (lst n e D ++ frs n e D).length + 1 ≤ k → loc ((lst n e D ++ frs n e D).map Prod.fst) k = 0 := fun k hk => Rs.loc_deg _ k (by rw [List.length_map]; exact hk)
 have hval : ev p (fun k => cv k S (loc ((lst n e D ++ frs n e D).map Prod.fst))) (al (n - 1 - j)).inv = ev (lst n e D ++ frs n e D).length (om (lst n e D ++ frs n e D)) (al (n - 1 - j)).inv := by
  rw [Rs.ev_congr p _ _ (om (lst n e D ++ frs n e D)) (fun k hk => by
   rw [Rs.cv_comm, ← Rs.cv_loc_ps]
   exact Rs.cv_congr k _ _ _ _ (fun _ _ => rfl) (fun i hi => by rw [hS i (by omega), Rs.ps_append, hv_lost n i e D hn hD]))]
  exact Rs.ev_more p _ _ _ (Rs.om_deg _) hL
 have hdv : ev p (dv (loc ((lst n e D ++ frs n e D).map Prod.fst))) (al (n - 1 - j)).inv = ev (lst n e D ++ frs n e D).length (dv (loc ((lst n e D ++ frs n e D).map Prod.fst))) (al (n - 1 - j)).inv :=
  Rs.ev_more p _ _ _ (Rs.dv_deg ld) hL
 show (if ev (p + 1) _ (al (n - 1 - j)).inv = 0 then (if ev p (dv _) (al (n - 1 - j)).inv = 0 then (0 : GF) else _) else 0) = _
 by_cases hm : j ∈ D ∨ e j ≠ 0
 ·have hmem := mem_all (e := e) hj hm
  have hx : al (n - 1 - j) * (al (n - 1 - j)).inv = 1 := Rs.GF.mul_inv hne
  obtain ⟨f1, f2⟩ := Rs.forney (lst n e D ++ frs n e D) (al (n - 1 - j)) (e j) (al (n - 1 - j)).inv hnd hmem hx
  rw [if_pos (hloc.2 ⟨_, List.mem_map_of_mem (f := Prod.fst) hmem, hx⟩), hdv, if_neg f2, hval]
  rw [← Rs.GF.mul_assoc, f1, Rs.GF.mul_assoc, Rs.GF.mul_inv f2, Rs.GF.mul_one]
 ·have h0 : e j = 0 := by
   by_cases h : e j = 0
   ·exact h
   ·exact absurd (.inr h) hm
  rw [if_neg (fun hz => ?_), h0]
  obtain ⟨X, hX, hXx⟩ := hloc.1 hz
  obtain rfl := inv_one hXx hne
  obtain ⟨Xe, hXe, hfst⟩ := List.mem_map.1 hX
  rcases List.mem_append.1 hXe with h1 | h1
  ·have : al (n - 1 - j) ∈ pl n D := by rw [← lst_fst n e D, ← hfst]; exact List.mem_map_of_mem (f := Prod.fst) h1
   exact hm (.inl ((pl_mem hN hD hj).1 this))
  ·obtain ⟨i, hi, _, hie, rfl⟩ := frs_mem h1
   have := Rs.GF.al_inj (by omega) (by omega) (show al (n - 1 - i) = al (n - 1 - j) from hfst)
   obtain rfl : i = j := by omega
   exact hm (.inr hie)
theorem outf_mends (n p : Nat) (w c : PS) (D : List Nat) (hN : n ≤ 255) (hn : D.Nodup) (hD : ∀ j, j ∈ D → j < n) (hc : ∀ i, i < p → hv n c (al i) = 0) (hp : D.length + 2 * cnt n (oth D (fun j => w j + c j)) ≤ p) (j : Nat) (hj : j < n) :
  outf n p w D j = c j := by
 have hS : ∀ i, i < p → sy n w i = hv n (fun j => w j + c j) (al i) := fun i hi => by
  rw [Rs.hv_add, hc i hi, Rs.GF.add_zero]; rfl
 unfold outf
 by_cases hz : zB p (sy n w) = true
 ·rw [if_pos hz]
  by_cases h0 : w j + c j = 0
  ·exact Rs.GF.add_eq_zero h0
  ·have hL : (lst n (fun j => w j + c j) D ++ frs n (fun j => w j + c j) D).length ≤ p := by rw [List.length_append, frs_length]; unfold lst; rw [List.length_map]; omega
   exact absurd (Rs.vand _ (lst n (fun j => w j + c j) D ++ frs n (fun j => w j + c j) D) rfl (all_nodup hN _ D hn hD) (fun i hi => by
    rw [Rs.ps_append, ← hv_lost n i _ D hn hD, ← hS i (by omega)]
    exact (zB_iff _ _).1 hz i (by omega)) _ (mem_all (e := fun j => w j + c j) hj (.inr h0))) h0
 ·rw [if_neg hz]
  show w j + fx n p (sy n w) _ j = c j
  rw [bm_loc n p (sy n w) (fun j => w j + c j) D hN hn hD hS hp, fx_mends n p (sy n w) (fun j => w j + c j) D hN hn hD hS hp j hj]
  rw [← Rs.GF.add_assoc, Rs.GF.add_self, Rs.GF.zero_add]
theorem decRes_mends (n p : Nat) (w c : PS) (D : List Nat) (hN : n ≤ 255) (hn : D.Nodup) (hD : ∀ j, j ∈ D → j < n) (hc : ∀ i, i < p → hv n c (al i) = 0) (hp : D.length + 2 * cnt n (oth D (fun j => w j + c j)) ≤ p) :
  decRes n p w D = (strOfNums (tb (n - p) c), ((cnt n (fun j => w j + c j) : Nat) : Int), 0) := by
 have ho := outf_mends n p w c D hN hn hD hc hp
 have e1 : cnt n (fun j => w j + outf n p w D j) = cnt n (fun j => w j + c j) := Rs.cnt_congr n _ _ (fun i hi => by show w i + outf n p w D i = 0 ↔ w i + c i = 0; rw [ho i hi])
 have e2 : cnt n (oth D (fun j => w j + outf n p w D j)) = cnt n (oth D (fun j => w j + c j)) := Rs.cnt_congr n _ _ (fun i hi => by
  show (if i ∈ D then (0 : GF) else w i + outf n p w D i) = 0 ↔ (if i ∈ D then (0 : GF) else w i + c i) = 0; rw [ho i hi])
 unfold decRes
 rw [e1, e2, if_neg (by omega), if_pos ((zB_iff _ _).2 fun i hi => by
  show hv n (outf n p w D) (al i) = 0
  rw [Rs.hv_congr n _ _ c ho]; exact hc i hi), tb_congr (n := n - p) (f := outf n p w D) (g := c) (fun j hj => ho j (by omega))]
theorem oth_dis2 (L : List Nat) (f : PS) : oth (dis L []) f = oth L f := by
 funext j
 unfold oth
 have : j ∈ dis L [] ↔ j ∈ L := by rw [dis_mem]; simp
 by_cases h : j ∈ L
 ·rw [if_pos h, if_pos (this.2 h)]
 ·rw [if_neg h, if_neg (fun e => h (this.1 e))]
theorem DecodeMends (n p : Nat) (w c : PS) (l : List Nat) (hn : n ≤ 255) (hp : p ≤ 64) (hpn : p < n) (hl : l.length ≤ 255) (h : ∀ i, i ∈ l → i < n) (hc : ∀ i, i < p → hv n c (al i) = 0) (hnear : (dis l []).length + 2 * cnt n (oth l (fun j => w j + c j)) ≤ p) :
  Ev (fun k => label_Decode.f k (strOfNums (tb n w)) (p : Int) (ql l)) (strOfNums (tb (n - p) c), ((cnt n (fun j => w j + c j) : Nat) : Int), 0) := by
 have e := DecodeG n p w l hn hp hpn hl h
 rw [if_neg (by omega), decRes_mends n p w c (dis l []) hn (dis_nodup l [] List.nodup_nil) (fun i hi => h i (((dis_mem l [] i).1 hi).resolve_left (by simp))) hc (by rw [oth_dis2]; exact hnear)] at e
 exact e
open Rs (PS GF hv wd cnt tl)
open Rs.GF (al)
theorem cnt_drop1 (n : Nat) : ∀ (f : PS) (i : Nat), i < n → f i ≠ 0 → cnt n f = cnt n (fun j => if j = i then 0 else f j) + 1 := by
 induction n with
 | zero => intro f i h; omega
 | succ n ih =>
  intro f i h hf
  cases i with
  | zero =>
   show (if f 0 = 0 then 0 else 1) + cnt n (tl f) = (if (if (0 : Nat) = 0 then (0 : GF) else f 0) = 0 then 0 else 1) + cnt n (tl fun j => if j = 0 then 0 else f j) + 1
   rw [if_neg hf, if_pos rfl, if_pos rfl, show (tl fun j => if j = 0 then (0 : GF) else f j) = tl f from funext fun j => by show (if j + 1 = 0 then (0 : GF) else f (j + 1)) = f (j + 1); rw [if_neg (by omega)]]
   omega
  | succ i =>
   show (if f 0 = 0 then 0 else 1) + cnt n (tl f) = (if (if (0 : Nat) = i + 1 then (0 : GF) else f 0) = 0 then 0 else 1) + cnt n (tl fun j => if j = i + 1 then 0 else f j) + 1
   rw [if_neg (show ¬ (0 : Nat) = i + 1 by omega), show (tl fun j => if j = i + 1 then (0 : GF) else f j) = fun j => if j = i then 0 else tl f j from funext fun j => by
    show (if j + 1 = i + 1 then (0 : GF) else f (j + 1)) = if j = i then 0 else f (j + 1)
    simp only [Nat.add_right_cancel_iff], ih (tl f) i (by omega) hf]
   omega
structure Spoils (n : Nat) (c w : PS) (L : List Nat) (M : Nat) : Prop where
 nd : L.Nodup
 lt : ∀ i, i ∈ L → i < n
 le : L.length ≤ M
 ne : ∀ j, j < n → (w j + c j ≠ 0 ↔ j ∈ L)
theorem Spoils.none (n : Nat) (c : PS) (M : Nat) : Spoils n c c [] M where
 nd := List.nodup_nil
 lt := fun i h => by simp at h
 le := Nat.zero_le _
 ne := fun j _ => by rw [Rs.GF.add_self]; simp
theorem byte_of {x : Int} (h : 0 ≤ x ∧ x ≤ 255) : ∃ X : GF, x = ((X.v : Nat) : Int) := ⟨Rs.GF.mk x.toNat (by omega), by rw [Rs.GF.v_mk]; omega⟩
theorem wd_data (n q : Nat) (f : PS) : tb n (wd n q f) = tb n f := tb_congr fun j hj => by unfold wd; rw [if_pos hj]
end Go.Proofs.YtiioklboaookiaaGreatDoor.Pure
