/- Words as series: their values, the long division, codewords, and how far two of them lie apart. Plain: no program in sight. -/
import Derived.Test.YtdgjanjoiabgfaaRs1
namespace Go.Proofs.Ytdgjanjoiabgfaa.Rs
open GF
/-- the value at x of a word of n elements, that of the highest power first -/
def hv : Nat → PS → GF → GF
  | 0, _, _ => 0
  | n + 1, f, x => f 0 * pow x n + hv n (tl f) x
theorem hv_congr (n : Nat) (x : GF) : ∀ (f g : PS), (∀ i, i < n → f i = g i) → hv n f x = hv n g x := by
  induction n with
  | zero => intro f g _; rfl
  | succ n ih => intro f g h; simp only [hv]; rw [h 0 (by omega), ih (tl f) (tl g) (fun i hi => h (i + 1) (by omega))]
theorem hv_cv (n : Nat) (x : GF) : ∀ (f : PS), hv (n + 1) f x = cv n f (geo x) := by
  induction n with
  | zero => intro f; exact add_zero _
  | succ n ih => intro f; rw [hv, ih (tl f)]; rfl
theorem hv_add (n : Nat) (x : GF) : ∀ (f g : PS), hv n (fun i => f i + g i) x = hv n f x + hv n g x := by
  induction n with
  | zero => intro f g; exact (add_zero _).symm
  | succ n ih =>
    intro f g; simp only [hv]
    rw [show tl (fun i => f i + g i) = fun i => tl f i + tl g i from rfl, ih, add_mul]; ac_rfl
theorem hv_smul (n : Nat) (x c : GF) : ∀ (f : PS), hv n (fun i => c * f i) x = c * hv n f x := by
  induction n with
  | zero => intro f; exact (mul_zero _).symm
  | succ n ih =>
    intro f; simp only [hv]
    rw [show tl (fun i => c * f i) = fun i => c * tl f i from rfl, ih, mul_add, mul_assoc]
theorem hv_none (n : Nat) (x : GF) : ∀ (f : PS), (∀ i, i < n → f i = 0) → hv n f x = 0 := by
  induction n with
  | zero => intro f _; rfl
  | succ n ih => intro f h; simp only [hv]; rw [h 0 (by omega), ih (tl f) (fun i hi => h (i + 1) (by omega)), zero_mul, add_zero]
theorem hv_horner (n : Nat) (x : GF) : ∀ (f : PS), hv (n + 1) f x = hv n f x * x + f n := by
  induction n with
  | zero => intro f; show f 0 * 1 + 0 = 0 * x + f 0; rw [zero_mul, zero_add, add_zero, mul_one]
  | succ n ih =>
    intro f
    rw [hv, ih (tl f), hv, add_mul, mul_assoc, add_assoc]; rfl
theorem hv_split (p : Nat) (x : GF) (n : Nat) : ∀ (f : PS), hv (n + p) f x = pow x p * hv n f x + hv p (fun j => f (n + j)) x := by
  induction n with
  | zero => intro f; rw [show hv 0 f x = 0 from rfl, mul_zero, zero_add, Nat.zero_add]; exact hv_congr _ _ _ _ (fun i _ => by rw [Nat.zero_add])
  | succ n ih =>
    intro f
    rw [show n + 1 + p = (n + p) + 1 from by omega, hv, ih (tl f), hv, pow_add, mul_add, add_assoc]
    rw [show (fun j => tl f (n + j)) = fun j => f (n + 1 + j) from funext fun j => by show f (n + j + 1) = _; congr 1; omega]
    rw [show f 0 * (pow x n * pow x p) = pow x p * (f 0 * pow x n) from by ac_rfl]
theorem loc_root (A : List GF) (X : GF) (h : X ∈ A) : ∀ k, A.length ≤ k → cv k (loc A) (geo X) = 0 := by
  induction A with
  | nil => simp at h
  | cons Y A ih =>
    intro k hk
    have hk' : A.length + 1 ≤ k := hk
    show cv k (st Y (loc A)) (geo X) = 0
    rw [cv_st]
    by_cases e : X = Y
    · subst e
      rw [← cv_st', st_geo, cv_comm, cv_dl]; exact loc_deg A k hk'
    · have hm : X ∈ A := by simpa [e] using h
      obtain ⟨j, rfl⟩ : ∃ j, k = j + 1 := ⟨k - 1, by omega⟩
      show cv (j + 1) (loc A) (geo X) + Y * cv j (loc A) (geo X) = 0
      rw [ih hm _ (by omega), ih hm _ (by omega), mul_zero, add_zero]
def als : Nat → List GF
  | 0 => []
  | n + 1 => al n :: als n
theorem als_length (p : Nat) : (als p).length = p := by
  induction p with
  | zero => rfl
  | succ p ih => show (als p).length + 1 = _; rw [ih]
theorem als_mem (p : Nat) : ∀ i, i < p → al i ∈ als p := by
  induction p with
  | zero => intro i hi; omega
  | succ p ih =>
    intro i hi
    by_cases e : i = p
    · subst e; exact List.mem_cons_self
    · exact List.mem_cons_of_mem _ (ih i (by omega))
/-- the generator, that of the highest power first -/
def gen (p : Nat) : PS := loc (als p)
theorem gen_zero (p : Nat) : gen p 0 = 1 := loc_zero _
theorem gen_deg (p k : Nat) (h : p < k) : gen p k = 0 := loc_deg _ _ (by rw [als_length]; omega)
theorem gen_root (p i m : Nat) (hi : i < p) (hm : p ≤ m) : hv (m + 1) (gen p) (al i) = 0 := by
  rw [hv_cv]; exact loc_root _ _ (als_mem p i hi) m (by rw [als_length]; exact hm)
/-- a step of the long division -/
def nx (L E : PS) : PS := fun j => E (j + 1) + E 0 * L (j + 1)
def en (L : PS) : Nat → PS → PS
  | 0, E => E
  | n + 1, E => en L n (nx L E)
theorem en_nx (L : PS) (n : Nat) : ∀ E, en L (n + 1) E = nx L (en L n E) := by
  induction n with
  | zero => intro E; rfl
  | succ n ih => intro E; rw [en, ih]; rfl
theorem hv_nx (p i m : Nat) (E : PS) (hi : i < p) (hm : p ≤ m) : hv m (nx (gen p) E) (al i) = hv (m + 1) E (al i) := by
  have h1 : hv (m + 1) (fun j => E j + E 0 * gen p j) (al i) = hv (m + 1) E (al i) := by
    rw [hv_add, hv_smul, gen_root p i m hi hm, mul_zero, add_zero]
  rw [← h1, hv]
  rw [show E 0 + E 0 * gen p 0 = 0 from by rw [gen_zero, mul_one, add_self], zero_mul, zero_add]; rfl
theorem hv_en (p i : Nat) (hi : i < p) (n : Nat) : ∀ (m : Nat) (E : PS), p ≤ m → hv m (en (gen p) n E) (al i) = hv (m + n) E (al i) := by
  induction n with
  | zero => intro m E _; rfl
  | succ n ih => intro m E hm; rw [en, ih m _ hm, hv_nx p i (m + n) E hi (by omega)]; rfl
def cut (n : Nat) (f : PS) : PS := fun j => if j < n then f j else 0
/-- the codeword of n elements of data -/
def wd (n p : Nat) (f : PS) : PS := fun j => if j < n then f j else en (gen p) n (cut n f) (j - n)
theorem wd_code (n p : Nat) (f : PS) (i : Nat) (hi : i < p) : hv (n + p) (wd n p f) (al i) = 0 := by
  have h1 := hv_en p i hi n p (cut n f) (Nat.le_refl _)
  rw [Nat.add_comm p n, hv_split p (al i) n (cut n f), hv_none p _ (fun j => cut n f (n + j)) (fun j _ => by unfold cut; rw [if_neg (by omega)]), add_zero] at h1
  rw [hv_split p (al i) n, hv_congr n (al i) (wd n p f) (cut n f) (fun j hj => by unfold wd cut; rw [if_pos hj, if_pos hj]), ← h1]
  rw [hv_congr p (al i) (fun j => wd n p f (n + j)) (en (gen p) n (cut n f)) (fun j hj => by show wd n p f (n + j) = _; unfold wd; rw [if_neg (by omega), Nat.add_sub_cancel_left]), add_self]
theorem nx_add (L E F : PS) : nx L (fun j => E j + F j) = fun j => nx L E j + nx L F j := by
  funext j; show E (j + 1) + F (j + 1) + (E 0 + F 0) * L (j + 1) = E (j + 1) + E 0 * L (j + 1) + (F (j + 1) + F 0 * L (j + 1)); rw [add_mul]; ac_rfl
theorem en_add (L : PS) (n : Nat) : ∀ E F, en L n (fun j => E j + F j) = fun j => en L n E j + en L n F j := by
  induction n with
  | zero => intro E F; rfl
  | succ n ih => intro E F; rw [en, nx_add, ih]; rfl
theorem wd_add (n p : Nat) (f g : PS) (j : Nat) : wd n p (fun i => f i + g i) j = wd n p f j + wd n p g j := by
  unfold wd
  split
  · rfl
  · rw [show cut n (fun i => f i + g i) = fun i => cut n f i + cut n g i from funext fun i => by unfold cut; split; rfl; exact (add_zero _).symm, en_add]
theorem en_congr (L : PS) (n : Nat) : ∀ (E F : PS), (∀ j, E j = F j) → ∀ j, en L n E j = en L n F j := by
  intro E F h j; rw [show E = F from funext h]
theorem wd_congr (n p : Nat) (f g : PS) (h : ∀ j, j < n → f j = g j) (j : Nat) : wd n p f j = wd n p g j := by
  unfold wd
  split
  · rename_i hj; exact h j hj
  · rw [show cut n f = cut n g from funext fun i => by unfold cut; split; (rename_i hi; exact h i hi); rfl]
/-! places and distances -/
theorem pow_al (m : Nat) : ∀ n, pow (al m) n = al (m * n) := by
  intro n
  induction n with
  | zero => rfl
  | succ n ih => show pow (al m) n * al m = _; rw [ih, al_add]; rfl
def spf : Nat → PS → Sp
  | 0, _ => []
  | n + 1, f => (al n, f 0) :: spf n (tl f)
theorem hv_ps (n i : Nat) : ∀ f, hv n f (al i) = ps (spf n f) i := by
  induction n with
  | zero => intro f; rfl
  | succ n ih => intro f; show f 0 * pow (al i) n + hv n (tl f) (al i) = f 0 * pow (al n) i + ps (spf n (tl f)) i; rw [ih, pow_al, pow_al, Nat.mul_comm]
theorem spf_mem (n : Nat) : ∀ (f : PS) (Xe : GF × GF), Xe ∈ spf n f → ∃ j, j < n ∧ Xe = (al (n - 1 - j), f j) := by
  induction n with
  | zero => intro f Xe h; simp [spf] at h
  | succ n ih =>
    intro f Xe h
    rcases List.mem_cons.1 h with e | h
    · exact ⟨0, by omega, e⟩
    · obtain ⟨j, hj, e⟩ := ih (tl f) Xe h
      exact ⟨j + 1, by omega, by rw [e, show n + 1 - 1 - (j + 1) = n - 1 - j from by omega]; rfl⟩
theorem mem_spf (n : Nat) : ∀ (f : PS) (j : Nat), j < n → (al (n - 1 - j), f j) ∈ spf n f := by
  induction n with
  | zero => intro f j h; omega
  | succ n ih =>
    intro f j h
    cases j with
    | zero => exact List.mem_cons_self
    | succ j => rw [show n + 1 - 1 - (j + 1) = n - 1 - j from by omega]; exact List.mem_cons_of_mem _ (ih (tl f) j (by omega))
theorem spf_nodup (n : Nat) : ∀ (f : PS), n ≤ 255 → ((spf n f).map Prod.fst).Nodup := by
  induction n with
  | zero => intro f _; exact List.nodup_nil
  | succ n ih =>
    intro f h
    refine List.nodup_cons.2 ⟨fun hm => ?_, ih (tl f) (by omega)⟩
    obtain ⟨Xe, hm, e⟩ := List.mem_map.1 hm
    obtain ⟨j, hj, rfl⟩ := spf_mem n _ _ hm
    have := al_inj (by omega) (by omega) (show al (n - 1 - j) = al n from e)
    omega
/-- how many of n elements are not 0 -/
def cnt : Nat → PS → Nat
  | 0, _ => 0
  | n + 1, f => (if f 0 = 0 then 0 else 1) + cnt n (tl f)
def nz (T : Sp) : Sp := T.filter fun Xe => decide (Xe.2 ≠ 0)
theorem nz_ps (T : Sp) (i : Nat) : ps (nz T) i = ps T i := by
  induction T with
  | nil => rfl
  | cons Xe T ih =>
    obtain ⟨X, e⟩ := Xe
    unfold nz
    by_cases h : e = 0
    · rw [List.filter_cons_of_neg (by simpa using h)]
      show ps (nz T) i = e * pow X i + ps T i
      rw [ih, h, zero_mul, zero_add]
    · rw [List.filter_cons_of_pos (by simpa using h)]
      show e * pow X i + ps (nz T) i = e * pow X i + ps T i
      rw [ih]
theorem nz_length (n : Nat) : ∀ f, (nz (spf n f)).length = cnt n f := by
  induction n with
  | zero => intro f; rfl
  | succ n ih =>
    intro f
    have e := ih (tl f)
    unfold nz at *
    show (List.filter _ ((al n, f 0) :: spf n (tl f))).length = (if f 0 = 0 then 0 else 1) + cnt n (tl f)
    by_cases h : f 0 = 0
    · rw [List.filter_cons_of_neg (by simpa using h), e, if_pos h]; omega
    · rw [List.filter_cons_of_pos (by simpa using h), if_neg h, List.length_cons, e]; omega
theorem nz_nodup (n : Nat) (f : PS) (h : n ≤ 255) : ((nz (spf n f)).map Prod.fst).Nodup :=
  List.Nodup.sublist (List.Sublist.map _ List.filter_sublist) (spf_nodup n f h)
/-- a word whose values are all 0 and that has few elements but 0 is 0 -/
theorem far (N p : Nat) (f : PS) (hN : N ≤ 255) (hz : ∀ i, i < p → hv N f (al i) = 0) (hc : cnt N f ≤ p) : ∀ j, j < N → f j = 0 := by
  intro j hj
  by_cases h : f j = 0
  · exact h
  · have hm : (al (N - 1 - j), f j) ∈ nz (spf N f) := List.mem_filter.2 ⟨mem_spf N f j hj, by simpa using h⟩
    exact vand _ (nz (spf N f)) rfl (nz_nodup N f hN) (fun i hi => by rw [nz_ps, ← hv_ps]; exact hz i (by rw [nz_length] at hi; omega)) _ hm
theorem cnt_congr (n : Nat) : ∀ (f g : PS), (∀ i, i < n → (f i = 0 ↔ g i = 0)) → cnt n f = cnt n g := by
  induction n with
  | zero => intro f g _; rfl
  | succ n ih =>
    intro f g h; simp only [cnt]; rw [ih (tl f) (tl g) (fun i hi => h (i + 1) (by omega))]
    by_cases e : f 0 = 0
    · rw [if_pos e, if_pos ((h 0 (by omega)).1 e)]
    · rw [if_neg e, if_neg (fun e' => e ((h 0 (by omega)).2 e'))]
theorem cnt_le (n : Nat) : ∀ (f : PS), cnt n f ≤ n := by
  induction n with
  | zero => intro f; exact Nat.le_refl _
  | succ n ih => intro f; simp only [cnt]; have := ih (tl f); split <;> omega
theorem cnt_split (p n : Nat) : ∀ f, cnt (n + p) f = cnt n f + cnt p (fun j => f (n + j)) := by
  induction n with
  | zero => intro f; rw [Nat.zero_add]; show _ = 0 + _; rw [Nat.zero_add]; exact cnt_congr _ _ _ (fun i _ => by show f i = 0 ↔ f (0 + i) = 0; rw [Nat.zero_add])
  | succ n ih =>
    intro f
    rw [show n + 1 + p = (n + p) + 1 from by omega]; simp only [cnt]; rw [ih (tl f), Nat.add_assoc]
    rw [show (fun j => tl f (n + j)) = fun j => f (n + 1 + j) from funext fun j => by show f (n + j + 1) = _; congr 1; omega]
theorem cnt_none (n : Nat) : ∀ f, (∀ i, i < n → f i = 0) → cnt n f = 0 := by
  induction n with
  | zero => intro f _; rfl
  | succ n ih => intro f h; simp only [cnt]; rw [if_pos (h 0 (by omega)), ih (tl f) (fun i hi => h (i + 1) (by omega))]
/-- two codewords that agree where the data stand are the same -/
theorem same_data (n p : Nat) (f g : PS) (hN : n + p ≤ 255) (hf : ∀ i, i < p → hv (n + p) f (al i) = 0) (hg : ∀ i, i < p → hv (n + p) g (al i) = 0) (h : ∀ j, j < n → f j = g j) : ∀ j, j < n + p → f j = g j := by
  intro j hj
  refine add_eq_zero (far (n + p) p (fun j => f j + g j) hN (fun i hi => by rw [hv_add, hf i hi, hg i hi, add_zero]) ?_ j hj)
  rw [cnt_split, cnt_none n _ (fun i hi => by show f i + g i = 0; rw [h i hi, add_self]), Nat.zero_add]
  exact cnt_le _ _
end Go.Proofs.Ytdgjanjoiabgfaa.Rs
