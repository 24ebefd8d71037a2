/- Power series over the field; locators, Forney's formula, Vandermonde, and what Berlekamp's and Massey's way keeps. Plain: no program in sight. -/
import Derived.Test.YtdgjanjoiabgfaaRs0
/-! power series -/
namespace Go.Proofs.Ytdgjanjoiabgfaa.Rs
open GF
abbrev PS := Nat → GF
def tl (f : PS) : PS := fun i => f (i + 1)
def cv : Nat → PS → PS → GF
  | 0, f, g => f 0 * g 0
  | k + 1, f, g => f 0 * g (k + 1) + cv k (tl f) g
theorem cv_congr (k : Nat) : ∀ (f f' g g' : PS), (∀ i, i ≤ k → f i = f' i) → (∀ i, i ≤ k → g i = g' i) → cv k f g = cv k f' g' := by
  induction k with
  | zero => intro f f' g g' hf hg; simp only [cv]; rw [hf 0 (by omega), hg 0 (by omega)]
  | succ k ih =>
    intro f f' g g' hf hg
    simp only [cv]
    rw [hf 0 (by omega), hg (k + 1) (by omega), ih (tl f) (tl f') g g' (fun i hi => hf (i + 1) (by omega)) (fun i hi => hg i (by omega))]
theorem cv_succ' (k : Nat) : ∀ (f g : PS), cv (k + 1) f g = cv k f (tl g) + f (k + 1) * g 0 := by
  induction k with
  | zero => intro f g; rfl
  | succ k ih =>
    intro f g
    rw [cv, ih (tl f) g]
    show _ = (f 0 * tl g (k + 1) + cv k (tl f) (tl g)) + _
    rw [add_assoc]; rfl
theorem cv_comm (k : Nat) : ∀ (f g : PS), cv k f g = cv k g f := by
  induction k with
  | zero => intro f g; exact mul_comm _ _
  | succ k ih => intro f g; rw [cv, cv_succ', ih, add_comm, mul_comm]
theorem cv_add_left (k : Nat) : ∀ (f f' g : PS), cv k (fun i => f i + f' i) g = cv k f g + cv k f' g := by
  induction k with
  | zero => intro f f' g; exact add_mul _ _ _
  | succ k ih =>
    intro f f' g
    simp only [cv]
    have := ih (tl f) (tl f') g
    rw [show tl (fun i => f i + f' i) = fun i => tl f i + tl f' i from rfl, this, add_mul]
    ac_rfl
theorem cv_smul_left (k : Nat) (c : GF) : ∀ (f g : PS), cv k (fun i => c * f i) g = c * cv k f g := by
  induction k with
  | zero => intro f g; exact mul_assoc _ _ _
  | succ k ih =>
    intro f g
    simp only [cv]
    rw [show tl (fun i => c * f i) = fun i => c * tl f i from rfl, ih (tl f) g, mul_add, mul_assoc]
theorem cv_add_right (k : Nat) (f g g' : PS) : cv k f (fun i => g i + g' i) = cv k f g + cv k f g' := by
  rw [cv_comm, cv_add_left, cv_comm k g, cv_comm k g']
theorem cv_smul_right (k : Nat) (c : GF) (f g : PS) : cv k f (fun i => c * g i) = c * cv k f g := by
  rw [cv_comm, cv_smul_left, cv_comm k g]
theorem cv_zero_left (k : Nat) (g : PS) : cv k (fun _ => 0) g = 0 := by
  induction k with
  | zero => exact zero_mul _
  | succ k ih => simp only [cv]; rw [zero_mul, zero_add]; exact ih
theorem cv_assoc (k : Nat) : ∀ (f g h : PS), cv k (fun i => cv i f g) h = cv k f (fun i => cv i g h) := by
  induction k with
  | zero => intro f g h; exact mul_assoc _ _ _
  | succ k ih =>
    intro f g h
    have e : tl (fun i => cv i f g) = fun i => f 0 * tl g i + cv i (tl f) g := rfl
    rw [cv, e, cv_add_left, cv_smul_left, ih, cv]
    show f 0 * g 0 * h (k + 1) + (f 0 * cv k (tl g) h + _) = f 0 * (g 0 * h (k + 1) + cv k (tl g) h) + _
    rw [mul_add, mul_assoc, add_assoc]
theorem cv_left_comm (k : Nat) (f g h : PS) : cv k f (fun i => cv i g h) = cv k g (fun i => cv i f h) := by
  rw [← cv_assoc, ← cv_assoc]
  exact cv_congr k _ _ _ _ (fun i _ => cv_comm i f g) (fun _ _ => rfl)
/-- a convolution none of whose products counts -/
theorem cv_none (k : Nat) : ∀ (f h : PS), (∀ i, i ≤ k → f i = 0 ∨ h (k - i) = 0) → cv k f h = 0 := by
  induction k with
  | zero =>
    intro f h hz
    rcases hz 0 (by omega) with e | e
    · simp only [cv]; rw [e, zero_mul]
    · simp only [cv]; rw [show h 0 = 0 from e, mul_zero]
  | succ k ih =>
    intro f h hz
    simp only [cv]
    rw [ih (tl f) h (fun i hi => by
      rcases hz (i + 1) (by omega) with e | e
      · exact .inl e
      · rw [show k + 1 - (i + 1) = k - i from by omega] at e; exact .inr e), add_zero]
    rcases hz 0 (by omega) with e | e
    · rw [e, zero_mul]
    · rw [show h (k + 1) = 0 from e, mul_zero]
/-- one of whose products counts alone: the first -/
theorem cv_first (k : Nat) (f h : PS) (hz : ∀ i, 1 ≤ i → i ≤ k → f i = 0 ∨ h (k - i) = 0) : cv k f h = f 0 * h k := by
  cases k with
  | zero => rfl
  | succ k =>
    simp only [cv]
    rw [cv_none k (tl f) h (fun i hi => by
      rcases hz (i + 1) (by omega) (by omega) with e | e
      · exact .inl e
      · rw [show k + 1 - (i + 1) = k - i from by omega] at e; exact .inr e), add_zero]
/-- a series whose low powers alone count, against a series that begins later -/
theorem cv_later (g : Nat) : ∀ (k : Nat) (f h : PS), (∀ i, k < i → f i = 0) → cv (k + g) f h = cv k f (fun i => h (i + g)) := by
  intro k
  induction k with
  | zero =>
    intro f h hz
    rw [cv_first (0 + g) f h (fun i h1 _ => .inl (hz i (by omega)))]; rfl
  | succ k ih =>
    intro f h hz
    rw [show k + 1 + g = (k + g) + 1 from by omega, cv, cv, ih (tl f) h (fun i hi => hz (i + 1) (by omega))]
    rw [show k + g + 1 = k + 1 + g from by omega]
def sh (f : PS) : PS
  | 0 => 0
  | k + 1 => f k
theorem cv_sh (k : Nat) (f g : PS) : cv k (sh f) g = sh (fun i => cv i f g) k := by
  cases k with
  | zero => exact zero_mul _
  | succ k => show 0 * g (k + 1) + cv k f g = cv k f g; rw [zero_mul, zero_add]
/-- times 1 + X x -/
def st (X : GF) (f : PS) : PS := fun k => f k + X * sh f k
theorem cv_st (k : Nat) (X : GF) (f g : PS) : cv k (st X f) g = st X (fun i => cv i f g) k := by
  unfold st; rw [cv_add_left, cv_smul_left, cv_sh]
theorem st_congr {X : GF} {f g : PS} (k : Nat) (h : ∀ i, i ≤ k → f i = g i) : st X f k = st X g k := by
  unfold st
  cases k with
  | zero => rw [h 0 (by omega)]; rfl
  | succ k => rw [h (k + 1) (by omega)]; show _ + X * f k = _ + X * g k; rw [h k (by omega)]
theorem cv_st' (k : Nat) (X : GF) (f g : PS) : cv k f (st X g) = st X (fun i => cv i f g) k := by
  rw [cv_comm, cv_st]; exact st_congr k (fun i _ => cv_comm i g f)
def geo (X : GF) : PS := fun k => pow X k
theorem pow_succ (X : GF) (k : Nat) : pow X (k + 1) = X * pow X k := mul_comm _ _
theorem pow_add (X : GF) (j k : Nat) : pow X (j + k) = pow X j * pow X k := by
  induction k with
  | zero => exact (mul_one _).symm
  | succ k ih => show pow X (j + k) * X = pow X j * (pow X k * X); rw [ih, mul_assoc]
theorem pow_ne {X : GF} (h : X ≠ 0) (k : Nat) : pow X k ≠ 0 := by
  induction k with
  | zero => exact one_ne
  | succ k ih => exact mul_ne ih h
theorem tl_geo (X : GF) : tl (geo X) = fun i => X * geo X i := by funext i; exact pow_succ X i
/-- the series 1 -/
def dl : PS
  | 0 => 1
  | _ + 1 => 0
theorem cv_dl (k : Nat) (g : PS) : cv k dl g = g k := by
  rw [cv_first k dl g (fun i h _ => .inl (by obtain ⟨j, rfl⟩ : ∃ j, i = j + 1 := ⟨i - 1, by omega⟩; rfl))]
  exact one_mul _
theorem st_geo (X : GF) : st X (geo X) = dl := by
  funext k
  cases k with
  | zero => show 1 + X * 0 = 1; rw [mul_zero, add_zero]
  | succ k => show pow X (k + 1) + X * pow X k = 0; rw [pow_succ, add_self]
/-- undoing st -/
theorem st_cv_geo (X : GF) (c : PS) (k : Nat) : st X (fun i => cv i c (geo X)) k = c k := by
  rw [← cv_st', st_geo, cv_comm, cv_dl]
theorem cv_geo_succ (c : PS) (X : GF) (k : Nat) : cv (k + 1) c (geo X) = X * cv k c (geo X) + c (k + 1) := by
  rw [cv_succ', tl_geo, cv_smul_right]; show _ + c (k + 1) * 1 = _; rw [mul_one]
theorem cv_geo_more (c : PS) (X : GF) (l : Nat) (h : ∀ k, l < k → c k = 0) (t : Nat) : cv (l + t) c (geo X) = pow X t * cv l c (geo X) := by
  induction t with
  | zero => exact (one_mul _).symm
  | succ t ih => rw [show l + (t + 1) = (l + t) + 1 from rfl, cv_geo_succ, h _ (by omega), add_zero, ih, pow_succ, mul_assoc]

/-! locators -/
def loc : List GF → PS
  | [] => dl
  | X :: L => st X (loc L)
theorem st_zero (X : GF) (f : PS) : st X f 0 = f 0 := by show f 0 + X * 0 = f 0; rw [mul_zero, add_zero]
theorem loc_zero (L : List GF) : loc L 0 = 1 := by
  induction L with
  | nil => rfl
  | cons X L ih => show st X (loc L) 0 = 1; rw [st_zero, ih]
theorem st_deg {X : GF} {f : PS} {n : Nat} (h : ∀ k, n ≤ k → f k = 0) : ∀ k, n + 1 ≤ k → st X f k = 0 := by
  intro k hk
  obtain ⟨j, rfl⟩ : ∃ j, k = j + 1 := ⟨k - 1, by omega⟩
  show f (j + 1) + X * f j = 0
  rw [h _ (by omega), h _ (by omega), mul_zero, add_zero]
theorem loc_deg (L : List GF) : ∀ k, L.length + 1 ≤ k → loc L k = 0 := by
  induction L with
  | nil => intro k hk; obtain ⟨j, rfl⟩ : ∃ j, k = j + 1 := ⟨k - 1, by simp at hk; omega⟩; rfl
  | cons X L ih => exact st_deg ih
abbrev Sp := List (GF × GF)
/-- sums of powers -/
def ps : Sp → PS
  | [] => fun _ => 0
  | (X, e) :: T => fun k => e * pow X k + ps T k
def om : Sp → PS
  | [] => fun _ => 0
  | (X, e) :: T => fun k => e * loc (T.map Prod.fst) k + st X (om T) k
theorem st_add (X : GF) (f g : PS) (k : Nat) : st X (fun i => f i + g i) k = st X f k + st X g k := by
  unfold st
  cases k with
  | zero => show f 0 + g 0 + X * 0 = f 0 + X * 0 + (g 0 + X * 0); rw [mul_zero, add_zero, add_zero, add_zero]
  | succ k => show f (k + 1) + g (k + 1) + X * (f k + g k) = f (k + 1) + X * f k + (g (k + 1) + X * g k); rw [mul_add]; ac_rfl
theorem st_smul (X c : GF) (f : PS) (k : Nat) : st X (fun i => c * f i) k = c * st X f k := by
  unfold st
  cases k with
  | zero => show c * f 0 + X * 0 = c * (f 0 + X * 0); rw [mul_zero, add_zero, add_zero]
  | succ k => show c * f (k + 1) + X * (c * f k) = c * (f (k + 1) + X * f k); rw [mul_add, mul_left_comm]
theorem cv_loc_ps (T : Sp) : ∀ k, cv k (loc (T.map Prod.fst)) (ps T) = om T k := by
  induction T with
  | nil => intro k; rw [cv_comm]; exact cv_zero_left _ _
  | cons Xe T ih =>
    obtain ⟨X, e⟩ := Xe
    intro k
    show cv k (st X (loc (T.map Prod.fst))) (fun k => e * pow X k + ps T k) = e * loc (T.map Prod.fst) k + st X (om T) k
    rw [cv_add_right, cv_smul_right]
    rw [show X.pow = geo X from rfl]
    rw [cv_st k X _ (geo X), ← cv_st', st_geo, cv_comm k _ dl, cv_dl, cv_st]
    rw [show (fun i => cv i (loc (T.map Prod.fst)) (ps T)) = om T from funext ih]
theorem om_deg (T : Sp) : ∀ k, T.length ≤ k → om T k = 0 := by
  induction T with
  | nil => intro k _; rfl
  | cons Xe T ih =>
    obtain ⟨X, e⟩ := Xe
    intro k hk
    show e * loc (T.map Prod.fst) k + st X (om T) k = 0
    rw [loc_deg _ _ (by simpa using hk), st_deg ih _ (by simpa using hk), mul_zero, add_zero]
/-! values, roots, the locator that is found -/
/-- the value of the first n coefficients -/
def ev : Nat → PS → GF → GF
  | 0, _, _ => 0
  | n + 1, f, x => f 0 + x * ev n (tl f) x
theorem ev_congr (n : Nat) (x : GF) : ∀ (f g : PS), (∀ i, i < n → f i = g i) → ev n f x = ev n g x := by
  induction n with
  | zero => intro f g _; rfl
  | succ n ih => intro f g h; simp only [ev]; rw [h 0 (by omega), ih (tl f) (tl g) (fun i hi => h (i + 1) (by omega))]
theorem ev_add (n : Nat) (x : GF) : ∀ (f g : PS), ev n (fun i => f i + g i) x = ev n f x + ev n g x := by
  induction n with
  | zero => intro f g; exact (add_zero _).symm
  | succ n ih =>
    intro f g; simp only [ev]
    rw [show tl (fun i => f i + g i) = fun i => tl f i + tl g i from rfl, ih, mul_add]; ac_rfl
theorem ev_smul (n : Nat) (x c : GF) : ∀ (f : PS), ev n (fun i => c * f i) x = c * ev n f x := by
  induction n with
  | zero => intro f; exact (mul_zero _).symm
  | succ n ih =>
    intro f; simp only [ev]
    rw [show tl (fun i => c * f i) = fun i => c * tl f i from rfl, ih, mul_add, mul_left_comm]
theorem ev_sh (n : Nat) (x : GF) (f : PS) : ev (n + 1) (sh f) x = x * ev n f x := by
  show 0 + x * ev n (tl (sh f)) x = _; rw [zero_add]; rfl
theorem ev_none (n : Nat) (x : GF) : ∀ (f : PS), (∀ i, f i = 0) → ev n f x = 0 := by
  induction n with
  | zero => intro f _; rfl
  | succ n ih => intro f h; simp only [ev]; rw [h 0, ih (tl f) (fun i => h (i + 1)), mul_zero, add_zero]
theorem ev_more (m : Nat) (x : GF) : ∀ (n : Nat) (f : PS), (∀ i, n ≤ i → f i = 0) → n ≤ m → ev m f x = ev n f x := by
  induction m with
  | zero => intro n f _ hn; obtain rfl : n = 0 := (by omega); rfl
  | succ m ih =>
    intro n f h hn
    cases n with
    | zero => rw [ev_none _ _ _ (fun i => h i (by omega))]; rfl
    | succ n => simp only [ev]; rw [ih n (tl f) (fun i hi => h (i + 1) (by omega)) (by omega)]
theorem ev_st (n : Nat) (X x : GF) (f : PS) (h : ∀ i, n ≤ i → f i = 0) : ev (n + 1) (st X f) x = (1 + X * x) * ev n f x := by
  unfold st
  rw [ev_add, ev_smul, ev_sh, ev_more (n + 1) x n f h (by omega), add_mul, one_mul, mul_assoc]
theorem ev_loc (L : List GF) : ∀ (n : Nat) (x : GF), L.length + 1 ≤ n → (ev n (loc L) x = 0 ↔ ∃ X, X ∈ L ∧ X * x = 1) := by
  induction L with
  | nil =>
    intro n x hn
    rw [ev_more n x 1 (loc []) (loc_deg []) hn]
    show (1 + x * 0 = 0 ↔ _)
    rw [mul_zero, add_zero]
    constructor
    · intro h; exact absurd h one_ne
    · rintro ⟨X, h, _⟩; simp at h
  | cons X L ih =>
    intro n x hn
    rw [ev_more n x (L.length + 2) _ (loc_deg (X :: L)) (by simpa using hn)]
    show ev (L.length + 1 + 1) (st X (loc L)) x = 0 ↔ _
    rw [ev_st _ _ _ _ (loc_deg L)]
    constructor
    · intro h
      by_cases hX : 1 + X * x = 0
      · exact ⟨X, by simp, (add_eq_zero hX).symm⟩
      · have := eq_zero_of_mul h hX
        obtain ⟨Y, h1, h2⟩ := (ih (L.length + 1) x (Nat.le_refl _)).1 this
        exact ⟨Y, by simp [h1], h2⟩
    · rintro ⟨Y, h1, h2⟩
      rcases List.mem_cons.1 h1 with rfl | h1
      · rw [h2, add_self, zero_mul]
      · rw [(ih (L.length + 1) x (Nat.le_refl _)).2 ⟨Y, h1, h2⟩, mul_zero]
/-- the formal derivative -/
def dv (f : PS) : PS := fun k => if k % 2 = 0 then f (k + 1) else 0
theorem dv_st (X : GF) (f : PS) (k : Nat) : dv (st X f) k = X * f k + st X (dv f) k := by
  unfold dv st
  cases k with
  | zero => show f 1 + X * f 0 = X * f 0 + (f 1 + X * 0); rw [mul_zero, add_zero, add_comm]
  | succ k =>
    show (if (k + 1) % 2 = 0 then f (k + 2) + X * f (k + 1) else 0) = X * f (k + 1) + ((if (k + 1) % 2 = 0 then f (k + 2) else 0) + X * (if k % 2 = 0 then f (k + 1) else 0))
    by_cases h : (k + 1) % 2 = 0
    · rw [if_pos h, if_pos h, if_neg (by omega), mul_zero, add_zero, add_comm]
    · rw [if_neg h, if_neg h, if_pos (by omega), zero_add, add_self]
theorem dv_deg {f : PS} {n : Nat} (h : ∀ k, n + 1 ≤ k → f k = 0) : ∀ k, n ≤ k → dv f k = 0 := by
  intro k hk; unfold dv; split
  · exact h _ (by omega)
  · rfl
/-- the error at a place, out of the values at its inverse -/
theorem forney (T : Sp) : ∀ (X e x : GF), (T.map Prod.fst).Nodup → (X, e) ∈ T → X * x = 1 →
    X * ev T.length (om T) x = e * ev T.length (dv (loc (T.map Prod.fst))) x ∧ ev T.length (dv (loc (T.map Prod.fst))) x ≠ 0 := by
  induction T with
  | nil => intro X e x _ h; simp at h
  | cons Yf T ih =>
    obtain ⟨Y, f⟩ := Yf
    intro X e x hn hm hx
    have hn' : (T.map Prod.fst).Nodup := (List.nodup_cons.1 hn).2
    have hY : Y ∉ T.map Prod.fst := (List.nodup_cons.1 hn).1
    have ld : ∀ k, T.length + 1 ≤ k → loc (T.map Prod.fst) k = 0 := fun k hk => loc_deg _ k (by simpa using hk)
    have E1 : ev (T.length + 1) (om ((Y, f) :: T)) x = f * ev (T.length + 1) (loc (T.map Prod.fst)) x + (1 + Y * x) * ev T.length (om T) x := by
      show ev (T.length + 1) (fun k => f * loc (T.map Prod.fst) k + st Y (om T) k) x = _
      rw [ev_add, ev_smul, ev_st _ _ _ _ (om_deg T)]
    have E2 : ev (T.length + 1) (dv (loc (((Y, f) :: T).map Prod.fst))) x = Y * ev (T.length + 1) (loc (T.map Prod.fst)) x + (1 + Y * x) * ev T.length (dv (loc (T.map Prod.fst))) x := by
      show ev (T.length + 1) (dv (st Y (loc (T.map Prod.fst)))) x = _
      rw [show dv (st Y (loc (T.map Prod.fst))) = fun k => Y * loc (T.map Prod.fst) k + st Y (dv (loc (T.map Prod.fst))) k from funext (dv_st Y _), ev_add, ev_smul, ev_st _ _ _ _ (dv_deg ld)]
    show X * ev (T.length + 1) (om ((Y, f) :: T)) x = e * ev (T.length + 1) _ x ∧ ev (T.length + 1) _ x ≠ 0
    rw [E1, E2]
    have xn : x ≠ 0 := fun h => by rw [h, mul_zero] at hx; exact one_ne hx.symm
    rcases List.mem_cons.1 hm with h | h
    · obtain ⟨rfl, rfl⟩ : X = Y ∧ e = f := by simpa using h
      rw [hx, add_self, zero_mul, zero_mul, add_zero, add_zero]
      have Xn : X ≠ 0 := fun h => by rw [h, zero_mul] at hx; exact one_ne hx.symm
      refine ⟨mul_left_comm _ _ _, mul_ne Xn fun h0 => ?_⟩
      obtain ⟨Z, h1, h2⟩ := (ev_loc (T.map Prod.fst) (T.length + 1) x (by simp)).1 h0
      have : (X + Z) * x = 0 := by rw [add_mul, hx, h2, add_self]
      rw [mul_comm] at this
      have := add_eq_zero (eq_zero_of_mul this xn)
      exact hY (this ▸ h1)
    · obtain ⟨i1, i2⟩ := ih X e x hn' h hx
      have h0 : ev (T.length + 1) (loc (T.map Prod.fst)) x = 0 := (ev_loc _ _ x (by simp)).2 ⟨X, List.mem_map_of_mem (f := Prod.fst) h, hx⟩
      have hYX : X ≠ Y := fun e => hY (e ▸ List.mem_map_of_mem (f := Prod.fst) h)
      rw [h0, mul_zero, mul_zero, zero_add, zero_add]
      refine ⟨by rw [mul_left_comm, i1, mul_left_comm], mul_ne (fun h0 => ?_) i2⟩
      have : (X + Y) * x = 0 := by rw [add_mul, hx]; exact h0
      rw [mul_comm] at this
      exact hYX (add_eq_zero (eq_zero_of_mul this xn))
/-- Vandermonde -/
theorem vand (n : Nat) : ∀ (T : Sp), T.length = n → (T.map Prod.fst).Nodup → (∀ j, j < n → ps T j = 0) → ∀ Xe, Xe ∈ T → Xe.2 = 0 := by
  induction n with
  | zero => intro T hT _ _ Xe h; rw [List.length_eq_zero_iff.1 hT] at h; simp at h
  | succ n ih =>
    intro T hT hn hz
    match T, hT, hn, hz with
    | (X, e) :: T, hT, hn, hz =>
      have hn' : (T.map Prod.fst).Nodup := (List.nodup_cons.1 hn).2
      have hX : X ∉ T.map Prod.fst := (List.nodup_cons.1 hn).1
      let T' : Sp := T.map fun Yf => (Yf.1, Yf.2 * (Yf.1 + X))
      have key : ∀ (S : Sp) (j : Nat), ps (S.map fun Yf => (Yf.1, Yf.2 * (Yf.1 + X))) j = ps S (j + 1) + X * ps S j := by
        intro S j
        induction S with
        | nil => show (0 : GF) = 0 + X * 0; rw [mul_zero, add_zero]
        | cons Yf S ihS =>
          obtain ⟨Y, f⟩ := Yf
          show f * (Y + X) * pow Y j + ps (S.map fun Yf => (Yf.1, Yf.2 * (Yf.1 + X))) j = f * pow Y (j + 1) + ps S (j + 1) + X * (f * pow Y j + ps S j)
          rw [ihS, pow_succ, mul_add, mul_add, add_mul]
          rw [show f * Y * pow Y j = f * (Y * pow Y j) from mul_assoc _ _ _, show f * X * pow Y j = X * (f * pow Y j) from by rw [mul_comm f X, mul_assoc]]
          ac_rfl
      have hT' : ∀ j, j < n → ps T' j = 0 := by
        intro j hj
        have h1 := hz j (by omega)
        have h2 := hz (j + 1) (by omega)
        have h3 : ps T j = e * pow X j := (add_eq_zero (show e * pow X j + ps T j = 0 from h1)).symm
        have h4 : ps T (j + 1) = e * pow X (j + 1) := (add_eq_zero (show e * pow X (j + 1) + ps T (j + 1) = 0 from h2)).symm
        rw [key T j, h3, h4, pow_succ, mul_left_comm, add_self]
      have hlen : T'.length = n := by simpa [T'] using hT
      have hfst : T'.map Prod.fst = T.map Prod.fst := by simp [T']
      have r := ih T' hlen (hfst ▸ hn') hT'
      have rest : ∀ Yf, Yf ∈ T → Yf.2 = 0 := by
        intro Yf hm
        have h0 := r (Yf.1, Yf.2 * (Yf.1 + X)) (List.mem_map_of_mem (f := fun Yf : GF × GF => (Yf.1, Yf.2 * (Yf.1 + X))) hm)
        have hne : Yf.1 + X ≠ 0 := add_ne fun e => hX (e ▸ List.mem_map_of_mem (f := Prod.fst) hm)
        exact eq_zero_of_mul (by rw [mul_comm]; exact h0) hne
      have pz : ∀ (S : Sp) (j : Nat), (∀ Yf, Yf ∈ S → Yf.2 = 0) → ps S j = 0 := by
        intro S j h
        induction S with
        | nil => rfl
        | cons Yf S ihS =>
          obtain ⟨Y, f⟩ := Yf
          show f * pow Y j + ps S j = 0
          rw [ihS (fun z hz => h z (by simp [hz])), show f = 0 from h (Y, f) (by simp), zero_mul, add_zero]
      intro Yf hm
      rcases List.mem_cons.1 hm with rfl | hm
      · have h1 := hz 0 (by omega)
        have h2 : e * 1 + ps T 0 = 0 := h1
        rw [pz T 0 rest, add_zero, mul_one] at h2
        exact h2
      · exact rest Yf hm
/-- a polynomial with constant term 1 whose reverse has as many roots as its degree allows -/
theorem root_factor (L : List GF) : ∀ (c : PS) (l : Nat), L.Nodup → c 0 = 1 → (∀ k, l < k → c k = 0) → l ≤ L.length → (∀ X, X ∈ L → cv l c (geo X) = 0) → l = L.length ∧ ∀ k, c k = loc L k := by
  induction L with
  | nil =>
    intro c l _ h0 hd hl _
    obtain rfl : l = 0 := by simpa using hl
    refine ⟨rfl, fun k => ?_⟩
    cases k with
    | zero => exact h0
    | succ k => exact hd _ (by omega)
  | cons X L ih =>
    intro c l hn h0 hd hl hr
    have hX := hr X (by simp)
    cases l with
    | zero => exact absurd (show c 0 * 1 = 0 from hX) (by rw [mul_one, h0]; exact one_ne)
    | succ m =>
      let c2 : PS := fun k => cv k c (geo X)
      have d2 : ∀ k, m < k → c2 k = 0 := by
        intro k hk
        obtain ⟨t, rfl⟩ : ∃ t, k = (m + 1) + t := ⟨k - (m + 1), by omega⟩
        show cv (m + 1 + t) c (geo X) = 0
        rw [cv_geo_more c X (m + 1) hd t, hX, mul_zero]
      have cs : ∀ k, c k = st X c2 k := fun k => (st_cv_geo X c k).symm
      have r2 : ∀ Y, Y ∈ L → cv m c2 (geo Y) = 0 := by
        intro Y hY
        have h1 := hr Y (by simp [hY])
        rw [cv_congr (m + 1) c (st X c2) (geo Y) (geo Y) (fun i _ => cs i) (fun _ _ => rfl), cv_st] at h1
        have h2 : cv (m + 1) c2 (geo Y) + X * cv m c2 (geo Y) = 0 := h1
        rw [cv_geo_succ, d2 _ (by omega), add_zero, ← add_mul] at h2
        exact eq_zero_of_mul h2 (add_ne fun e => (List.nodup_cons.1 hn).1 (e ▸ hY))
      obtain ⟨hm, hc⟩ := ih c2 m (List.nodup_cons.1 hn).2 (by show c 0 * 1 = 1; rw [mul_one, h0]) d2 (by simpa using hl) r2
      refine ⟨by simp [hm], fun k => ?_⟩
      rw [cs k]
      exact st_congr k (fun i _ => hc i)
theorem cv_ps (k : Nat) (c : PS) (E : Sp) : cv k c (ps E) = ps (E.map fun Xe => (Xe.1, Xe.2 * cv k c (geo Xe.1))) 0 := by
  induction E with
  | nil => rw [cv_comm]; exact cv_zero_left _ _
  | cons Xe E ih =>
    obtain ⟨X, e⟩ := Xe
    show cv k c (fun i => e * geo X i + ps E i) = e * cv k c (geo X) * 1 + _
    rw [cv_add_right, cv_smul_right, ih, mul_one]
theorem ps_pow (E : Sp) (t : Nat) (c : GF → GF) : ps (E.map fun Xe => (Xe.1, Xe.2 * (pow Xe.1 t * c Xe.1))) 0 = ps (E.map fun Xe => (Xe.1, Xe.2 * c Xe.1)) t := by
  induction E with
  | nil => rfl
  | cons Xe E ih =>
    obtain ⟨X, e⟩ := Xe
    show e * (pow X t * c X) * 1 + _ = e * c X * pow X t + _
    rw [ih, mul_one, mul_assoc, mul_comm (c X)]
/-- what generates a sum of v powers over long enough a stretch, and is no longer than v, is the locator -/
theorem gen_unique (E : Sp) (T : PS) (g p len : Nat) (c : PS) (hn : (E.map Prod.fst).Nodup) (he : ∀ Xe, Xe ∈ E → Xe.2 ≠ 0)
    (hT : ∀ j, g ≤ j → j < p → T j = ps E (j - g)) (h0 : c 0 = 1) (gl : g ≤ len) (hd : ∀ k, len - g < k → c k = 0) (hl : len ≤ g + E.length) (hp : len + E.length ≤ p)
    (hz : ∀ j, len ≤ j → j < p → cv j c T = 0) : len = g + E.length ∧ ∀ k, c k = loc (E.map Prod.fst) k := by
  have roots : ∀ X, X ∈ E.map Prod.fst → cv (len - g) c (geo X) = 0 := by
    intro X hX
    obtain ⟨Xe, hm, rfl⟩ := List.mem_map.1 hX
    have := vand E.length (E.map fun Xe => (Xe.1, Xe.2 * cv (len - g) c (geo Xe.1))) (by simp) (by simpa [Function.comp_def] using hn) (by
      intro t ht
      have h1 := hz (len + t) (by omega) (by omega)
      have hd' : ∀ i, (len - g) + t < i → c i = 0 := fun i hi => hd i (by omega)
      rw [show len + t = ((len - g) + t) + g from by omega, cv_later g _ c T hd'] at h1
      rw [cv_congr _ c c _ (ps E) (fun _ _ => rfl) (fun i hi => by rw [hT (i + g) (by omega) (by omega), show i + g - g = i from by omega]), cv_ps] at h1
      rw [← ps_pow E t (fun X => cv (len - g) c (geo X))]
      rw [← h1]
      congr 1
      apply List.map_congr_left
      intro Ye _
      rw [cv_geo_more c Ye.1 (len - g) hd t]) (Xe.1, Xe.2 * cv (len - g) c (geo Xe.1)) (List.mem_map_of_mem (f := fun Xe : GF × GF => (Xe.1, Xe.2 * cv (len - g) c (geo Xe.1))) hm)
    exact eq_zero_of_mul this (he Xe hm)
  obtain ⟨h1, h2⟩ := root_factor (E.map Prod.fst) c (len - g) hn h0 hd (by simp; omega) roots
  exact ⟨by simp at h1; omega, h2⟩
/-! Berlekamp's and Massey's way, with lost places -/
structure Bm (T : PS) (g v r : Nat) (c b : PS) (len : Nat) : Prop where
  c0 : c 0 = 1
  cd : ∀ k, len - g < k → c k = 0
  gl : g ≤ len
  lr : len ≤ r
  lv : len ≤ g + v
  cz : ∀ j, len ≤ j → j < r → cv j c T = 0
  bd : ∀ k, r - len < k → b k = 0
  bz : ∀ j, r + 1 + g - len ≤ j → j < r → cv j (sh b) T = 0
  b1 : g < len → cv r (sh b) T = 1
theorem Bm.start (T : PS) (g v : Nat) : Bm T g v g dl dl g where
  c0 := rfl
  cd := fun k h => by obtain ⟨j, rfl⟩ : ∃ j, k = j + 1 := ⟨k - 1, by omega⟩; rfl
  gl := Nat.le_refl _
  lr := Nat.le_refl _
  lv := Nat.le_add_right _ _
  cz := fun j h1 h2 => by omega
  bd := fun k h => by obtain ⟨j, rfl⟩ : ∃ j, k = j + 1 := ⟨k - 1, by omega⟩; rfl
  bz := fun j h1 h2 => by omega
  b1 := fun h => by omega
theorem sh_deg {b : PS} {n : Nat} (h : ∀ k, n < k → b k = 0) : ∀ k, n + 1 < k → sh b k = 0 := by
  intro k hk; obtain ⟨j, rfl⟩ : ∃ j, k = j + 1 := ⟨k - 1, by omega⟩; exact h j (by omega)
theorem cv_sh_succ (k : Nat) (f g : PS) : cv (k + 1) (sh f) g = cv k f g := cv_sh (k + 1) f g
theorem Bm.same {T : PS} {g v r : Nat} {c b : PS} {len : Nat} (h : Bm T g v r c b len) (hd : cv r c T = 0) : Bm T g v (r + 1) c (sh b) len where
  c0 := h.c0
  cd := h.cd
  gl := h.gl
  lr := Nat.le_succ_of_le h.lr
  lv := h.lv
  cz := fun j h1 h2 => by
    by_cases e : j = r
    · rw [e]; exact hd
    · exact h.cz j h1 (by omega)
  bd := fun k hk => sh_deg h.bd k (by have := h.lr; omega)
  bz := fun j h1 h2 => by
    have := h.lr
    obtain ⟨i, rfl⟩ : ∃ i, j = i + 1 := ⟨j - 1, by omega⟩
    rw [cv_sh_succ]; exact h.bz i (by omega) (by omega)
  b1 := fun hl => by rw [cv_sh_succ]; exact h.b1 hl
theorem Bm.long {T s : PS} {g v r p : Nat} {c b : PS} {len : Nat} (h : Bm T g v r c b len) (s0 : s 0 = 1) (sd : ∀ k, v < k → s k = 0) (sz : ∀ j, g + v ≤ j → j < p → cv j s T = 0) (hr : r < p) (hd : cv r c T ≠ 0) : r + 1 ≤ len + v := by
  by_cases hv : r + 1 ≤ len + v
  · exact hv
  · exfalso
    have e1 : cv r c (fun i => cv i s T) = 0 := cv_none r _ _ (fun i hi => by
      by_cases hc : len - g < i
      · exact .inl (h.cd i hc)
      · exact .inr (sz (r - i) (by have := h.gl; omega) (by omega)))
    have e2 : cv r s (fun i => cv i c T) = s 0 * cv r c T := cv_first r _ _ (fun i h1 hi => by
      by_cases hc : v < i
      · exact .inl (sd i hc)
      · exact .inr (h.cz (r - i) (by omega) (by omega)))
    rw [cv_left_comm, e2, s0, one_mul] at e1
    exact hd e1
theorem Bm.turn {T s : PS} {g v r p : Nat} {c b : PS} {len : Nat} (h : Bm T g v r c b len) (s0 : s 0 = 1) (sd : ∀ k, v < k → s k = 0) (sz : ∀ j, g + v ≤ j → j < p → cv j s T = 0) (hr : r < p) (hd : cv r c T ≠ 0) (h2 : 2 * len ≤ r + g) :
    Bm T g v (r + 1) (fun k => c k + cv r c T * sh b k) (fun k => (cv r c T).inv * c k) (r + g + 1 - len) := by
  have hl := h.long s0 sd sz hr hd
  have lr := h.lr
  have gl := h.gl
  exact {
    c0 := by show c 0 + cv r c T * 0 = 1; rw [mul_zero, add_zero, h.c0]
    cd := fun k hk => by
      show c k + cv r c T * sh b k = 0
      rw [h.cd k (by omega), sh_deg h.bd k (by omega), mul_zero, add_zero]
    gl := by omega
    lr := by omega
    lv := by omega
    cz := fun j h1 hj => by
      rw [cv_add_left, cv_smul_left]
      by_cases e : j = r
      · rw [e, h.b1 (by omega), mul_one, add_self]
      · rw [h.cz j (by omega) (by omega), h.bz j (by omega) (by omega), mul_zero, add_zero]
    bd := fun k hk => by
      show (cv r c T).inv * c k = 0
      rw [h.cd k (by omega), mul_zero]
    bz := fun j h1 hj => by
      obtain ⟨i, rfl⟩ : ∃ i, j = i + 1 := ⟨j - 1, by omega⟩
      rw [cv_sh_succ, cv_smul_left, h.cz i (by omega) (by omega), mul_zero]
    b1 := fun _ => by rw [cv_sh_succ, cv_smul_left, mul_comm]; exact mul_inv hd }
theorem Bm.keep {T : PS} {g v r : Nat} {c b : PS} {len : Nat} (h : Bm T g v r c b len) (h2 : ¬ 2 * len ≤ r + g) :
    Bm T g v (r + 1) (fun k => c k + cv r c T * sh b k) (sh b) len := by
  have lr := h.lr
  have gl := h.gl
  exact {
    c0 := by show c 0 + cv r c T * 0 = 1; rw [mul_zero, add_zero, h.c0]
    cd := fun k hk => by
      show c k + cv r c T * sh b k = 0
      rw [h.cd k (by omega), sh_deg h.bd k (by omega), mul_zero, add_zero]
    gl := h.gl
    lr := by omega
    lv := h.lv
    cz := fun j h1 hj => by
      rw [cv_add_left, cv_smul_left]
      by_cases e : j = r
      · rw [e, h.b1 (by omega), mul_one, add_self]
      · rw [h.cz j (by omega) (by omega), h.bz j (by omega) (by omega), mul_zero, add_zero]
    bd := fun k hk => sh_deg h.bd k (by omega)
    bz := fun j h1 hj => by
      obtain ⟨i, rfl⟩ : ∃ i, j = i + 1 := ⟨j - 1, by omega⟩
      rw [cv_sh_succ]; exact h.bz i (by omega) (by omega)
    b1 := fun hl => by rw [cv_sh_succ]; exact h.b1 hl }

/-! the syndromes of what is lost and what is wrong, freed of what is lost -/
/-- each error times the product of (X + Y), Y the lost ones -/
def freed (G : List GF) (e : GF × GF) : GF × GF := (e.1, G.foldr (fun Y y => y * (e.1 + Y)) e.2)
theorem loc_geo (G : List GF) (X e : GF) : ∀ k, G.length ≤ k → cv k (loc G) (fun k => e * pow X k) = (freed G (X, e)).2 * pow X (k - G.length) := by
  induction G with
  | nil => intro k _; show cv k dl _ = _; rw [cv_dl]; rfl
  | cons Y G ih =>
    intro k hk
    have hk' : G.length + 1 ≤ k := hk
    show cv k (st Y (loc G)) _ = (freed G (X, e)).2 * (X + Y) * pow X (k - (G.length + 1))
    rw [cv_st]
    obtain ⟨j, rfl⟩ : ∃ j, k = j + 1 := ⟨k - 1, by omega⟩
    show cv (j + 1) (loc G) _ + Y * cv j (loc G) _ = _
    rw [ih _ (by omega), ih _ (by omega), show j + 1 - G.length = (j - G.length) + 1 from by omega, show j + 1 - (G.length + 1) = j - G.length from by omega, pow_succ]
    rw [show (freed G (X, e)).2 * (X + Y) * pow X (j - G.length) = (freed G (X, e)).2 * (X * pow X (j - G.length)) + Y * ((freed G (X, e)).2 * pow X (j - G.length)) from by
      rw [mul_add, add_mul, mul_assoc, mul_comm _ Y, mul_assoc Y]]
theorem freed_ne (G : List GF) (X e : GF) (he : e ≠ 0) (hX : X ∉ G) : (freed G (X, e)).2 ≠ 0 := by
  induction G with
  | nil => exact he
  | cons Y G ih =>
    show (freed G (X, e)).2 * (X + Y) ≠ 0
    exact mul_ne (ih (fun h => hX (by simp [h]))) (add_ne fun e => hX (by simp [e]))
theorem loc_ps (G : List GF) (E : Sp) : ∀ k, G.length ≤ k → cv k (loc G) (ps E) = ps (E.map (freed G)) (k - G.length) := by
  intro k hk
  induction E with
  | nil => rw [cv_comm]; exact cv_zero_left _ _
  | cons Xe E ih =>
    obtain ⟨X, e⟩ := Xe
    show cv k (loc G) (fun k => e * pow X k + ps E k) = (freed G (X, e)).2 * pow X (k - G.length) + _
    rw [cv_add_right, loc_geo G X e k hk, ih]
theorem ps_append (A B : Sp) (k : Nat) : ps (A ++ B) k = ps A k + ps B k := by
  induction A with
  | nil => exact (zero_add _).symm
  | cons Xe A ih => obtain ⟨X, e⟩ := Xe; show _ + ps (A ++ B) k = _ + ps A k + _; rw [ih, add_assoc]
theorem loc_append (A B : List GF) (k : Nat) : cv k (loc A) (loc B) = loc (A ++ B) k := by
  induction A generalizing k with
  | nil => exact cv_dl _ _
  | cons X A ih => show cv k (st X (loc A)) _ = st X (loc (A ++ B)) k; rw [cv_st]; exact st_congr k (fun i _ => ih i)
end Go.Proofs.Ytdgjanjoiabgfaa.Rs
