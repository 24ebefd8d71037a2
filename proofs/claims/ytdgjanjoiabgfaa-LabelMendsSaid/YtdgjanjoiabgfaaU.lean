/- Words over the field, and what Encode and the syndromes come to. -/
import Derived.Test.YtdgjanjoiabgfaaQ2
import Derived.Test.YtdgjanjoiabgfaaQ29
import Derived.Test.YtdgjanjoiabgfaaQ7
import Derived.Test.YtdgjanjoiabgfaaQ2
import Derived.Test.YtdgjanjoiabgfaaQ4
import Derived.Test.YtdgjanjoiabgfaaQ8
import Derived.Test.YtdgjanjoiabgfaaQ10
import Derived.Test.YtdgjanjoiabgfaaRs1
namespace Go.Proofs.Ytdgjanjoiabgfaa.Rs
open GF
/-- the value at x of a word of n elements, that of the highest power first -/
def hv : Nat → PS → GF → GF
  | 0, _, _ => 0
  | n + 1, f, x => f 0 * pow x n + hv n (tl f) x
theorem hv_congr (n : Nat) (x : GF) : ∀ (f g : PS), (∀ i, i < n → f i = g i) → hv n f x = hv n g x := by
  induction n with
  | zero => intro f g _; rfl
  | succ n ih => intro f g h; simp only [hv]; rw [h 0 (by omega), ih (tl f) (tl g) (fun i hi => h (i + 1) (by omega))]
theorem hv_cv (n : Nat) (x : GF) : ∀ (f : PS), hv (n + 1) f x = cv n f (geo x) := by
  induction n with
  | zero => intro f; exact add_zero _
  | succ n ih => intro f; rw [hv, ih (tl f)]; rfl
theorem hv_add (n : Nat) (x : GF) : ∀ (f g : PS), hv n (fun i => f i + g i) x = hv n f x + hv n g x := by
  induction n with
  | zero => intro f g; exact (add_zero _).symm
  | succ n ih =>
    intro f g; simp only [hv]
    rw [show tl (fun i => f i + g i) = fun i => tl f i + tl g i from rfl, ih, add_mul]; ac_rfl
theorem hv_smul (n : Nat) (x c : GF) : ∀ (f : PS), hv n (fun i => c * f i) x = c * hv n f x := by
  induction n with
  | zero => intro f; exact (mul_zero _).symm
  | succ n ih =>
    intro f; simp only [hv]
    rw [show tl (fun i => c * f i) = fun i => c * tl f i from rfl, ih, mul_add, mul_assoc]
theorem hv_none (n : Nat) (x : GF) : ∀ (f : PS), (∀ i, i < n → f i = 0) → hv n f x = 0 := by
  induction n with
  | zero => intro f _; rfl
  | succ n ih => intro f h; simp only [hv]; rw [h 0 (by omega), ih (tl f) (fun i hi => h (i + 1) (by omega)), zero_mul, add_zero]
theorem hv_horner (n : Nat) (x : GF) : ∀ (f : PS), hv (n + 1) f x = hv n f x * x + f n := by
  induction n with
  | zero => intro f; show f 0 * 1 + 0 = 0 * x + f 0; rw [zero_mul, zero_add, add_zero, mul_one]
  | succ n ih =>
    intro f
    rw [hv, ih (tl f), hv, add_mul, mul_assoc, add_assoc]; rfl
theorem hv_split (p : Nat) (x : GF) (n : Nat) : ∀ (f : PS), hv (n + p) f x = pow x p * hv n f x + hv p (fun j => f (n + j)) x := by
  induction n with
  | zero => intro f; rw [show hv 0 f x = 0 from rfl, mul_zero, zero_add, Nat.zero_add]; exact hv_congr _ _ _ _ (fun i _ => by rw [Nat.zero_add])
  | succ n ih =>
    intro f
    rw [show n + 1 + p = (n + p) + 1 from by omega, hv, ih (tl f), hv, pow_add, mul_add, add_assoc]
    rw [show (fun j => tl f (n + j)) = fun j => f (n + 1 + j) from funext fun j => by show f (n + j + 1) = _; congr 1; omega]
    rw [show f 0 * (pow x n * pow x p) = pow x p * (f 0 * pow x n) from by ac_rfl]
theorem loc_root (A : List GF) (X : GF) (h : X ∈ A) : ∀ k, A.length ≤ k → cv k (loc A) (geo X) = 0 := by
  induction A with
  | nil => simp at h
  | cons Y A ih =>
    intro k hk
    have hk' : A.length + 1 ≤ k := hk
    show cv k (st Y (loc A)) (geo X) = 0
    rw [cv_st]
    by_cases e : X = Y
    · subst e
      rw [← cv_st', st_geo, cv_comm, cv_dl]; exact loc_deg A k hk'
    · have hm : X ∈ A := by simpa [e] using h
      obtain ⟨j, rfl⟩ : ∃ j, k = j + 1 := ⟨k - 1, by omega⟩
      show cv (j + 1) (loc A) (geo X) + Y * cv j (loc A) (geo X) = 0
      rw [ih hm _ (by omega), ih hm _ (by omega), mul_zero, add_zero]
def als : Nat → List GF
  | 0 => []
  | n + 1 => al n :: als n
theorem als_length (p : Nat) : (als p).length = p := by
  induction p with
  | zero => rfl
  | succ p ih => show (als p).length + 1 = _; rw [ih]
theorem als_mem (p : Nat) : ∀ i, i < p → al i ∈ als p := by
  induction p with
  | zero => intro i hi; omega
  | succ p ih =>
    intro i hi
    by_cases e : i = p
    · subst e; exact List.mem_cons_self
    · exact List.mem_cons_of_mem _ (ih i (by omega))
/-- the generator, that of the highest power first -/
def gen (p : Nat) : PS := loc (als p)
theorem gen_zero (p : Nat) : gen p 0 = 1 := loc_zero _
theorem gen_deg (p k : Nat) (h : p < k) : gen p k = 0 := loc_deg _ _ (by rw [als_length]; omega)
theorem gen_root (p i m : Nat) (hi : i < p) (hm : p ≤ m) : hv (m + 1) (gen p) (al i) = 0 := by
  rw [hv_cv]; exact loc_root _ _ (als_mem p i hi) m (by rw [als_length]; exact hm)
/-- a step of the long division -/
def nx (L E : PS) : PS := fun j => E (j + 1) + E 0 * L (j + 1)
def en (L : PS) : Nat → PS → PS
  | 0, E => E
  | n + 1, E => en L n (nx L E)
theorem en_nx (L : PS) (n : Nat) : ∀ E, en L (n + 1) E = nx L (en L n E) := by
  induction n with
  | zero => intro E; rfl
  | succ n ih => intro E; rw [en, ih]; rfl
theorem hv_nx (p i m : Nat) (E : PS) (hi : i < p) (hm : p ≤ m) : hv m (nx (gen p) E) (al i) = hv (m + 1) E (al i) := by
  have h1 : hv (m + 1) (fun j => E j + E 0 * gen p j) (al i) = hv (m + 1) E (al i) := by
    rw [hv_add, hv_smul, gen_root p i m hi hm, mul_zero, add_zero]
  rw [← h1, hv]
  rw [show E 0 + E 0 * gen p 0 = 0 from by rw [gen_zero, mul_one, add_self], zero_mul, zero_add]; rfl
theorem hv_en (p i : Nat) (hi : i < p) (n : Nat) : ∀ (m : Nat) (E : PS), p ≤ m → hv m (en (gen p) n E) (al i) = hv (m + n) E (al i) := by
  induction n with
  | zero => intro m E _; rfl
  | succ n ih => intro m E hm; rw [en, ih m _ hm, hv_nx p i (m + n) E hi (by omega)]; rfl
def cut (n : Nat) (f : PS) : PS := fun j => if j < n then f j else 0
/-- the codeword of n elements of data -/
def wd (n p : Nat) (f : PS) : PS := fun j => if j < n then f j else en (gen p) n (cut n f) (j - n)
theorem wd_code (n p : Nat) (f : PS) (i : Nat) (hi : i < p) : hv (n + p) (wd n p f) (al i) = 0 := by
  have h1 := hv_en p i hi n p (cut n f) (Nat.le_refl _)
  rw [Nat.add_comm p n, hv_split p (al i) n (cut n f), hv_none p _ (fun j => cut n f (n + j)) (fun j _ => by unfold cut; rw [if_neg (by omega)]), add_zero] at h1
  rw [hv_split p (al i) n, hv_congr n (al i) (wd n p f) (cut n f) (fun j hj => by unfold wd cut; rw [if_pos hj, if_pos hj]), ← h1]
  rw [hv_congr p (al i) (fun j => wd n p f (n + j)) (en (gen p) n (cut n f)) (fun j hj => by show wd n p f (n + j) = _; unfold wd; rw [if_neg (by omega), Nat.add_sub_cancel_left]), add_self]
theorem nx_add (L E F : PS) : nx L (fun j => E j + F j) = fun j => nx L E j + nx L F j := by
  funext j; show E (j + 1) + F (j + 1) + (E 0 + F 0) * L (j + 1) = E (j + 1) + E 0 * L (j + 1) + (F (j + 1) + F 0 * L (j + 1)); rw [add_mul]; ac_rfl
theorem en_add (L : PS) (n : Nat) : ∀ E F, en L n (fun j => E j + F j) = fun j => en L n E j + en L n F j := by
  induction n with
  | zero => intro E F; rfl
  | succ n ih => intro E F; rw [en, nx_add, ih]; rfl
theorem wd_add (n p : Nat) (f g : PS) (j : Nat) : wd n p (fun i => f i + g i) j = wd n p f j + wd n p g j := by
  unfold wd
  split
  · rfl
  · rw [show cut n (fun i => f i + g i) = fun i => cut n f i + cut n g i from funext fun i => by unfold cut; split; rfl; exact (add_zero _).symm, en_add]
theorem en_congr (L : PS) (n : Nat) : ∀ (E F : PS), (∀ j, E j = F j) → ∀ j, en L n E j = en L n F j := by
  intro E F h j; rw [show E = F from funext h]
theorem wd_congr (n p : Nat) (f g : PS) (h : ∀ j, j < n → f j = g j) (j : Nat) : wd n p f j = wd n p g j := by
  unfold wd
  split
  · rename_i hj; exact h j hj
  · rw [show cut n f = cut n g from funext fun i => by unfold cut; split; (rename_i hi; exact h i hi); rfl]
/-! places and distances -/
theorem pow_al (m : Nat) : ∀ n, pow (al m) n = al (m * n) := by
  intro n
  induction n with
  | zero => rfl
  | succ n ih => show pow (al m) n * al m = _; rw [ih, al_add]; rfl
def spf : Nat → PS → Sp
  | 0, _ => []
  | n + 1, f => (al n, f 0) :: spf n (tl f)
theorem hv_ps (n i : Nat) : ∀ f, hv n f (al i) = ps (spf n f) i := by
  induction n with
  | zero => intro f; rfl
  | succ n ih => intro f; show f 0 * pow (al i) n + hv n (tl f) (al i) = f 0 * pow (al n) i + ps (spf n (tl f)) i; rw [ih, pow_al, pow_al, Nat.mul_comm]
theorem spf_mem (n : Nat) : ∀ (f : PS) (Xe : GF × GF), Xe ∈ spf n f → ∃ j, j < n ∧ Xe = (al (n - 1 - j), f j) := by
  induction n with
  | zero => intro f Xe h; simp [spf] at h
  | succ n ih =>
    intro f Xe h
    rcases List.mem_cons.1 h with e | h
    · exact ⟨0, by omega, e⟩
    · obtain ⟨j, hj, e⟩ := ih (tl f) Xe h
      exact ⟨j + 1, by omega, by rw [e, show n + 1 - 1 - (j + 1) = n - 1 - j from by omega]; rfl⟩
theorem mem_spf (n : Nat) : ∀ (f : PS) (j : Nat), j < n → (al (n - 1 - j), f j) ∈ spf n f := by
  induction n with
  | zero => intro f j h; omega
  | succ n ih =>
    intro f j h
    cases j with
    | zero => exact List.mem_cons_self
    | succ j => rw [show n + 1 - 1 - (j + 1) = n - 1 - j from by omega]; exact List.mem_cons_of_mem _ (ih (tl f) j (by omega))
theorem spf_nodup (n : Nat) : ∀ (f : PS), n ≤ 255 → ((spf n f).map Prod.fst).Nodup := by
  induction n with
  | zero => intro f _; exact List.nodup_nil
  | succ n ih =>
    intro f h
    refine List.nodup_cons.2 ⟨fun hm => ?_, ih (tl f) (by omega)⟩
    obtain ⟨Xe, hm, e⟩ := List.mem_map.1 hm
    obtain ⟨j, hj, rfl⟩ := spf_mem n _ _ hm
    have := al_inj (by omega) (by omega) (show al (n - 1 - j) = al n from e)
    omega
/-- how many of n elements are not 0 -/
def cnt : Nat → PS → Nat
  | 0, _ => 0
  | n + 1, f => (if f 0 = 0 then 0 else 1) + cnt n (tl f)
def nz (T : Sp) : Sp := T.filter fun Xe => decide (Xe.2 ≠ 0)
theorem nz_ps (T : Sp) (i : Nat) : ps (nz T) i = ps T i := by
  induction T with
  | nil => rfl
  | cons Xe T ih =>
    obtain ⟨X, e⟩ := Xe
    unfold nz
    by_cases h : e = 0
    · rw [List.filter_cons_of_neg (by simpa using h)]
      show ps (nz T) i = e * pow X i + ps T i
      rw [ih, h, zero_mul, zero_add]
    · rw [List.filter_cons_of_pos (by simpa using h)]
      show e * pow X i + ps (nz T) i = e * pow X i + ps T i
      rw [ih]
theorem nz_length (n : Nat) : ∀ f, (nz (spf n f)).length = cnt n f := by
  induction n with
  | zero => intro f; rfl
  | succ n ih =>
    intro f
    have e := ih (tl f)
    unfold nz at *
    show (List.filter _ ((al n, f 0) :: spf n (tl f))).length = (if f 0 = 0 then 0 else 1) + cnt n (tl f)
    by_cases h : f 0 = 0
    · rw [List.filter_cons_of_neg (by simpa using h), e, if_pos h]; omega
    · rw [List.filter_cons_of_pos (by simpa using h), if_neg h, List.length_cons, e]; omega
theorem nz_nodup (n : Nat) (f : PS) (h : n ≤ 255) : ((nz (spf n f)).map Prod.fst).Nodup :=
  List.Nodup.sublist (List.Sublist.map _ List.filter_sublist) (spf_nodup n f h)
/-- a word whose values are all 0 and that has few elements but 0 is 0 -/
theorem far (N p : Nat) (f : PS) (hN : N ≤ 255) (hz : ∀ i, i < p → hv N f (al i) = 0) (hc : cnt N f ≤ p) : ∀ j, j < N → f j = 0 := by
  intro j hj
  by_cases h : f j = 0
  · exact h
  · have hm : (al (N - 1 - j), f j) ∈ nz (spf N f) := List.mem_filter.2 ⟨mem_spf N f j hj, by simpa using h⟩
    exact vand _ (nz (spf N f)) rfl (nz_nodup N f hN) (fun i hi => by rw [nz_ps, ← hv_ps]; exact hz i (by rw [nz_length] at hi; omega)) _ hm
theorem cnt_congr (n : Nat) : ∀ (f g : PS), (∀ i, i < n → (f i = 0 ↔ g i = 0)) → cnt n f = cnt n g := by
  induction n with
  | zero => intro f g _; rfl
  | succ n ih =>
    intro f g h; simp only [cnt]; rw [ih (tl f) (tl g) (fun i hi => h (i + 1) (by omega))]
    by_cases e : f 0 = 0
    · rw [if_pos e, if_pos ((h 0 (by omega)).1 e)]
    · rw [if_neg e, if_neg (fun e' => e ((h 0 (by omega)).2 e'))]
theorem cnt_le (n : Nat) : ∀ (f : PS), cnt n f ≤ n := by
  induction n with
  | zero => intro f; exact Nat.le_refl _
  | succ n ih => intro f; simp only [cnt]; have := ih (tl f); split <;> omega
theorem cnt_split (p n : Nat) : ∀ f, cnt (n + p) f = cnt n f + cnt p (fun j => f (n + j)) := by
  induction n with
  | zero => intro f; rw [Nat.zero_add]; show _ = 0 + _; rw [Nat.zero_add]; exact cnt_congr _ _ _ (fun i _ => by show f i = 0 ↔ f (0 + i) = 0; rw [Nat.zero_add])
  | succ n ih =>
    intro f
    rw [show n + 1 + p = (n + p) + 1 from by omega]; simp only [cnt]; rw [ih (tl f), Nat.add_assoc]
    rw [show (fun j => tl f (n + j)) = fun j => f (n + 1 + j) from funext fun j => by show f (n + j + 1) = _; congr 1; omega]
theorem cnt_none (n : Nat) : ∀ f, (∀ i, i < n → f i = 0) → cnt n f = 0 := by
  induction n with
  | zero => intro f _; rfl
  | succ n ih => intro f h; simp only [cnt]; rw [if_pos (h 0 (by omega)), ih (tl f) (fun i hi => h (i + 1) (by omega))]
/-- two codewords that agree where the data stand are the same -/
theorem same_data (n p : Nat) (f g : PS) (hN : n + p ≤ 255) (hf : ∀ i, i < p → hv (n + p) f (al i) = 0) (hg : ∀ i, i < p → hv (n + p) g (al i) = 0) (h : ∀ j, j < n → f j = g j) : ∀ j, j < n + p → f j = g j := by
  intro j hj
  refine add_eq_zero (far (n + p) p (fun j => f j + g j) hN (fun i hi => by rw [hv_add, hf i hi, hg i hi, add_zero]) ?_ j hj)
  rw [cnt_split, cnt_none n _ (fun i hi => by show f i + g i = 0; rw [h i hi, add_self]), Nat.zero_add]
  exact cnt_le _ _
/-! series with one element, and series cut off -/
/-- one alone -/
def dlt (i : Nat) : PS := fun t => if t = i then 1 else 0
theorem cv_dlt (g : PS) : ∀ (j i : Nat), cv j (dlt i) g = if i ≤ j then g (j - i) else 0 := by
  intro j
  induction j with
  | zero =>
    intro i
    cases i with
    | zero => show 1 * g 0 = _; rw [one_mul]; rfl
    | succ i => show 0 * g 0 = _; rw [zero_mul, if_neg (by omega)]
  | succ j ih =>
    intro i
    cases i with
    | zero =>
      rw [cv_first (j + 1) _ _ (fun i h _ => .inl (by unfold dlt; rw [if_neg (by omega)]))]
      show 1 * g (j + 1) = _; rw [one_mul]; rfl
    | succ i =>
      show 0 * g (j + 1) + cv j (tl (dlt (i + 1))) g = _
      rw [zero_mul, zero_add, show tl (dlt (i + 1)) = dlt i from funext fun t => by show (if t + 1 = i + 1 then (1 : GF) else 0) = if t = i then 1 else 0; simp only [Nat.add_right_cancel_iff], ih i]
      by_cases h : i ≤ j
      · rw [if_pos h, if_pos (by omega), show j + 1 - (i + 1) = j - i from by omega]
      · rw [if_neg h, if_neg (by omega)]
theorem cv_cut (i j : Nat) (A B : PS) : cv j (cut (i + 1) A) B = cv j (cut i A) B + (if i ≤ j then A i * B (j - i) else 0) := by
  rw [show cut (i + 1) A = fun t => cut i A t + A i * dlt i t from funext fun t => by
    unfold cut dlt
    by_cases e : t = i
    · subst e; rw [if_pos (by omega), if_neg (by omega), if_pos rfl, mul_one, zero_add]
    · rw [if_neg e, mul_zero, add_zero]
      by_cases h : t < i
      · rw [if_pos h, if_pos (by omega)]
      · rw [if_neg h, if_neg (by omega)], cv_add_left, cv_smul_left, cv_dlt]
  split
  · rfl
  · rw [mul_zero]
theorem cv_cut_all (j n : Nat) (A B : PS) (h : j < n) : cv j (cut n A) B = cv j A B :=
  cv_congr j _ _ _ _ (fun i hi => by unfold cut; rw [if_pos (by omega)]) (fun _ _ => rfl)
theorem cut_deg (n : Nat) (f : PS) (h : ∀ k, n ≤ k → f k = 0) : cut n f = f := by
  funext k; unfold cut
  split
  · rfl
  · exact (h k (by omega)).symm
end Go.Proofs.Ytdgjanjoiabgfaa.Rs
namespace Go.Proofs.Ytdgjanjoiabgfaa.Pure
open Go.RowKit Go.Proofs.Ytdgjanjoiabgfaa.Q Go.Proofs.YtdgjanjoiabgfaaW.PrintWords Go.Proofs.YtdgjanjoiabgfaaW.PrintLast Go.Proofs.YtdgjanjoiabgfaaW.PrintMore
set_option linter.unusedVariables false
set_option linter.unusedSimpArgs false
/-! ### numbers and rounds -/
theorem awake_40 : silversidelaw03_awake.f 40 = some true := by decide +kernel
theorem awakeE : Ev (fun k => silversidelaw03_awake.f k) true := Ev.of (fun k => silversidelaw03_awake.mono k) awake_40
theorem Ev.bind' {α β : Type} {x : Option α} {f : Nat → α → Option β} {a : α} {r : β} (h : x = some a) (k : Ev (fun n => f n a) r) : Ev (fun n => x.bind (f n)) r := by
  obtain ⟨K, k⟩ := k
  exact ⟨K, fun n hn => by rw [h]; exact k n hn⟩
theorem Ev.cong {α : Type} {g f : Nat → Option α} {r : α} (k : Ev f r) (h : ∀ k, g k = f k) : Ev g r := Ev.congr h k
theorem Ev.pos {α : Type} {c : Prop} [Decidable c] {f g : Nat → Option α} {r : α} (h : c) (k : Ev f r) : Ev (fun n => if c then f n else g n) r := Ev.cong k (fun _ => if_pos h)
theorem Ev.neg {α : Type} {c : Prop} [Decidable c] {f g : Nat → Option α} {r : α} (h : ¬ c) (k : Ev g r) : Ev (fun n => if c then f n else g n) r := Ev.cong k (fun _ => if_neg h)
theorem awake_end : Ev (fun k => (silversidelaw03_awake.f k).bind fun t => some t) true := Ev.bind awakeE (Ev.now true)
theorem nat_of_u8 {a : Int} (h : (Lit.int .u8 a).wf = true) : ∃ n : Nat, a = n ∧ n < 256 := by
  have : (Lit.int .u8 a).wf = true ↔ 0 ≤ a ∧ a ≤ 255 := by simp [Lit.wf, IntKind.min, IntKind.max, IntKind.signed, IntKind.bits]
  have := this.1 h
  exact ⟨a.toNat, by omega, by omega⟩
theorem w64 {n : Int} (h0 : -1000000 ≤ n) (h1 : n ≤ 1000000) : wrap64 n = n := Hand.w64_in n h0 h1
theorem in8_of {n : Nat} (h : n < 256) : Hand.in8 (n : Int) = true := decide_eq_true (by omega)
theorem mulT {a b : Nat} (ha : a < 256) (hb : b < 256) : Hand.label_mul.f (a : Int) (b : Int) = some ((Rs.mulN a b : Nat) : Int) := by
  rw [Hand.label_mul.some (in8_of ha) (in8_of hb), Int.toNat_natCast, Int.toNat_natCast]
theorem MulT {a b : Nat} (ha : a < 256) (hb : b < 256) : label_Mul.f (a : Int) (b : Int) = some ((Rs.mulN a b : Nat) : Int) := by
  unfold label_Mul.f; rw [mulT ha hb]; rfl
theorem invT {a : Nat} (ha : a < 256) : Hand.label_inv.f (a : Int) = some ((Rs.invN a : Nat) : Int) := by
  unfold Hand.label_inv.f; rw [if_pos (in8_of ha), Int.toNat_natCast]
theorem xt_mul {b : Nat} (hb : b < 256) : Rs.xt b = Rs.mulN 2 b := by
  have := Rs.pw_mul 0 b hb
  rw [show Rs.pw (0 + 1) = 2 from rfl, show Rs.pw 0 = 1 from rfl, Rs.mulN_comm 1 b, Rs.mulN_one b hb] at this
  exact this.symm
theorem xt_lt {b : Nat} (hb : b < 256) : Rs.xt b < 256 := (Rs.xt_bits b hb).2
theorem mul_xt {x q : Nat} (hx : x < 256) (hq : q < 256) : Rs.mulN x (Rs.xt q) = Rs.mulN (Rs.xt x) q := by
  rw [xt_mul hq, xt_mul hx, ← Rs.mulN_assoc x 2 q hx (by omega) hq, Rs.mulN_comm x 2]
theorem xt_step {x : Nat} (hx : x < 256) : (if wrap64 (2 * (x : Int)) > 255 then Go.bits .xor .i64 (wrap64 (2 * (x : Int))) 285 else wrap64 (2 * (x : Int))) = (Rs.xt x : Nat) := by
  rw [w64 (by omega) (by omega)]
  unfold Rs.xt
  by_cases h : 2 * x > 255
  · rw [if_pos (by omega), if_pos h]
    have := Hand.xor64 (2 * x) 285 (by omega) (by omega)
    rw [← this]; simp
  · rw [if_neg (by omega), if_neg h]; omega
theorem half_step {x : Nat} (hx : x < 100000) : wrap64 (Int.tdiv (x : Int) 2) = (x / 2 : Nat) := by
  rw [Int.tdiv_eq_ediv_of_nonneg (by omega), w64 (by omega) (by omega)]; omega
theorem odd_step (x : Nat) : Int.tmod (x : Int) 2 = (x % 2 : Nat) := by
  rw [Int.tmod_eq_emod_of_nonneg (by omega)]; omega
theorem xor_two (q r : Nat) (hr : r < 2) : r ^^^ (2 * q) = 2 * q + r := by
  apply Nat.eq_of_testBit_eq
  intro i
  rw [Nat.testBit_xor]
  cases i with
  | zero => rcases (show r = 0 ∨ r = 1 by omega) with rfl | rfl <;> simp [Nat.testBit_zero]
  | succ i =>
    rw [Nat.testBit_succ, Nat.testBit_succ, Nat.testBit_succ, show r / 2 = 0 by omega, show 2 * q / 2 = q by omega, show (2 * q + r) / 2 = q by omega]; simp
theorem refMul_l0 (n : Nat) : ∀ (x y o : Nat), x < 256 → y < 2 ^ n → n ≤ 8 → o < 256 → silversideref03_Mul.l0 (n + 1) (x : Int) (y : Int) (o : Int) = some ((o ^^^ Rs.mulN x y : Nat) : Int) := by
  induction n with
  | zero =>
    intro x y o hx hy _ ho
    have hy0 : y = 0 := by simpa using hy
    subst hy0
    simp only [silversideref03_Mul.l0]
    rw [if_neg (by omega), Rs.mulN_zero, Nat.xor_zero]
  | succ n ih =>
    intro x y o hx hy hn ho
    have h2n : 2 ^ (n + 1) ≤ 2 ^ 8 := Nat.pow_le_pow_right (by omega) hn
    have hy8 : y < 256 := by omega
    by_cases y0 : y = 0
    · subst y0
      simp only [silversideref03_Mul.l0]
      rw [if_neg (by omega), Rs.mulN_zero, Nat.xor_zero]
    · obtain ⟨q, hq⟩ : ∃ q, q = y / 2 := ⟨_, rfl⟩
      have hq2 : q < 2 ^ n := by rw [hq]; rw [Nat.pow_succ] at hy; omega
      have hq1 : q < 128 := by omega
      have hxq : Rs.xt q = 2 * q := by unfold Rs.xt; rw [if_neg (by omega)]
      have split : Rs.mulN x y = Rs.mulN x (y % 2) ^^^ Rs.mulN (Rs.xt x) q := by
        have e : y = (y % 2) ^^^ (2 * q) := by rw [xor_two q _ (by omega)]; omega
        rw [← mul_xt hx (by omega), hxq]
        conv => lhs; rw [e]
        exact Rs.mulN_xor x _ _ hx (by omega) (by omega)
      rw [show silversideref03_Mul.l0 (n + 1 + 1) (x : Int) (y : Int) (o : Int) = (if (y : Int) > 0 then (if Int.tmod (y : Int) 2 = 1 then silversideref03_Mul.l0 (n + 1) (if wrap64 (2 * (x : Int)) > 255 then Go.bits .xor .i64 (wrap64 (2 * (x : Int))) 285 else wrap64 (2 * (x : Int))) (wrap64 (Int.tdiv (y : Int) 2)) (Go.bits .xor .i64 (o : Int) (x : Int)) else silversideref03_Mul.l0 (n + 1) (if wrap64 (2 * (x : Int)) > 255 then Go.bits .xor .i64 (wrap64 (2 * (x : Int))) 285 else wrap64 (2 * (x : Int))) (wrap64 (Int.tdiv (y : Int) 2)) (o : Int)) else some (o : Int)) from by
        rw [silversideref03_Mul.l0]
        by_cases h : wrap64 (2 * (x : Int)) > 255
        · simp only [if_pos h]
        · simp only [if_neg h]]
      rw [if_pos (by omega), xt_step hx, half_step (by omega), odd_step, ← hq, Hand.xor64 o x (by omega) (by omega), split]
      have hox : o ^^^ x < 256 := Nat.xor_lt_two_pow (n := 8) ho hx
      rcases (show y % 2 = 0 ∨ y % 2 = 1 by omega) with h | h
      · rw [h, if_neg (by omega), ih (Rs.xt x) q o (xt_lt hx) hq2 (by omega) ho, Rs.mulN_zero, Nat.zero_xor]
      · rw [h, if_pos (by omega), ih (Rs.xt x) q (o ^^^ x) (xt_lt hx) hq2 (by omega) hox, Rs.mulN_one x hx, Nat.xor_assoc]
theorem refMul9 {a b : Nat} (ha : a < 256) (hb : b < 256) : silversideref03_Mul.f 9 (a : Int) (b : Int) = some ((Rs.mulN a b : Nat) : Int) := by
  unfold silversideref03_Mul.f
  have := refMul_l0 8 a b 0 ha hb (Nat.le_refl _) (by omega)
  rw [Nat.zero_xor] at this
  exact this
theorem refMulE {a b : Nat} (ha : a < 256) (hb : b < 256) : Ev (fun k => silversideref03_Mul.f k (a : Int) (b : Int)) ((Rs.mulN a b : Nat) : Int) := Ev.of (fun k => silversideref03_Mul.mono _ _ k) (refMul9 ha hb)
theorem InverseT {a : Nat} (ha : a < 256) (h0 : a ≠ 0) : label_Inverse.f (a : Int) = some (((Rs.invN a : Nat) : Int), 0) := by
  unfold label_Inverse.f; rw [if_neg (by omega), invT ha]; rfl
open Rs (PS GF hv gen gen_zero gen_deg nx en cut wd cv cv_congr cv_comm cv_zero_left cv_add_left cv_smul_left st sh tl loc als cnt)
open Rs.GF (al)
/-! ### rows of field elements -/
def tb (n : Nat) (f : PS) : List Int := (List.range n).map fun j => (((f j).v : Nat) : Int)
theorem tb_length (n : Nat) (f : PS) : (tb n f).length = n := by simp [tb]
theorem tb_get (n : Nat) (f : PS) (i : Nat) : (tb n f)[i]? = if i < n then some (((f i).v : Nat) : Int) else none := by
  unfold tb
  rw [List.getElem?_map]
  by_cases h : i < n
  · rw [if_pos h, List.getElem?_range h]; rfl
  · rw [if_neg h, List.getElem?_eq_none (by simp; omega)]; rfl
theorem tb_rd (n : Nat) (f : PS) (i : Nat) (h : i < n) : rd (tb n f) (i : Int) = (((f i).v : Nat) : Int) := by
  unfold rd; rw [Int.toNat_natCast, List.getD_eq_getElem?_getD, tb_get, if_pos h]; rfl
theorem tb_congr {n : Nat} {f g : PS} (h : ∀ j, j < n → f j = g j) : tb n f = tb n g := by
  unfold tb; exact List.map_congr_left fun j hj => by rw [h j (List.mem_range.1 hj)]
theorem tb_inj {n : Nat} {f g : PS} (h : tb n f = tb n g) (j : Nat) (hj : j < n) : f j = g j := by
  have := congrArg (fun l => l[j]?) h
  simp only [tb_get, if_pos hj, Option.some.injEq] at this
  exact Rs.GF.ext (by omega)
theorem tb_ext {n : Nat} {f : PS} {l : List Int} (hl : l.length = n) (h : ∀ j, j < n → l[j]? = some (((f j).v : Nat) : Int)) : l = tb n f := by
  apply List.ext_getElem?
  intro j
  rw [tb_get]
  split
  · rename_i hj; exact h j hj
  · exact List.getElem?_eq_none (by omega)
theorem tb_set (n : Nat) (f : PS) (i : Nat) (x : GF) : (tb n f).set i ((x.v : Nat) : Int) = tb n (fun j => if j = i then x else f j) := by
  refine tb_ext (by rw [List.length_set, tb_length]) fun j hj => ?_
  rw [List.getElem?_set, tb_get, tb_length]
  by_cases e : i = j
  · subst e; rw [if_pos rfl, if_pos hj, if_pos rfl]
  · rw [if_neg e, if_pos hj, if_neg (fun h => e h.symm)]
theorem tb_zero (n : Nat) : List.replicate n (0 : Int) = tb n (fun _ => 0) :=
  tb_ext (by simp) fun j hj => by rw [List.getElem?_replicate, if_pos hj]; rfl
theorem tb_succ (n : Nat) (f : PS) : tb (n + 1) f = ((f 0).v : Int) :: tb n (tl f) := by
  symm
  refine tb_ext (by simp [tb_length]) fun j hj => ?_
  cases j with
  | zero => rfl
  | succ j => rw [List.getElem?_cons_succ, tb_get, if_pos (by omega)]; rfl
theorem tb_snoc (n : Nat) (f : PS) : tb n f ++ [((f n).v : Int)] = tb (n + 1) f :=
  tb_ext (by simp [tb_length]) fun j hj => by
    by_cases h : j < n
    · rw [List.getElem?_append_left (by rw [tb_length]; exact h), tb_get, if_pos h]
    · obtain rfl : j = n := by omega
      rw [List.getElem?_append_right (by rw [tb_length]; omega), tb_length, Nat.sub_self]; rfl
theorem tb_append (n p : Nat) (f g : PS) : tb n f ++ tb p g = tb (n + p) (fun j => if j < n then f j else g (j - n)) :=
  tb_ext (by simp [tb_length]) fun j hj => by
    by_cases h : j < n
    · rw [List.getElem?_append_left (by rw [tb_length]; exact h), tb_get, if_pos h, if_pos h]
    · rw [List.getElem?_append_right (by rw [tb_length]; omega), tb_length, tb_get, if_pos (by omega), if_neg h]
theorem tb_drop (n p : Nat) (f : PS) : (tb (n + p) f).drop n = tb p (fun j => f (n + j)) :=
  tb_ext (by simp [tb_length]) fun j hj => by rw [List.getElem?_drop, tb_get, if_pos (by omega)]
theorem tb_take (n p : Nat) (f : PS) (h : n ≤ p) : (tb p f).take n = tb n f :=
  tb_ext (by simp [tb_length]; omega) fun j hj => by rw [List.getElem?_take, if_pos hj, tb_get, if_pos (by omega)]
theorem in8G (a : GF) : Hand.in8 ((a.v : Nat) : Int) = true := in8_of a.v_lt
theorem tb_bytes (n : Nat) (f : PS) : Hand.bytesB (tb n f) = true := List.all_eq_true.2 fun x hx => by
  obtain ⟨j, _, rfl⟩ := List.mem_map.1 hx
  exact in8G _
theorem tb_of {l : List Int} (h : Hand.bytesB l = true) : ∃ f, l = tb l.length f := by
  have hb : ∀ j, ∀ h' : j < l.length, Hand.in8 l[j] = true := fun j h' => List.all_eq_true.1 h _ (List.getElem_mem h')
  refine ⟨fun j => if h' : j < l.length then Rs.GF.mk l[j].toNat (by have := of_decide_eq_true (hb j h'); omega) else 0, tb_ext rfl fun j hj => ?_⟩
  rw [List.getElem?_eq_getElem hj, dif_pos hj]
  have := of_decide_eq_true (hb j hj)
  rw [Rs.GF.v_mk]
  congr 1; omega
/-! strings -/
theorem str_bytes (s : ByteArray) : strOfNums (bytesOf s) = s := by
  show ByteArray.mk _ = s
  have e : ((bytesOf s).map fun n => UInt8.ofNat n.toNat) = s.data.toList := by
    unfold bytesOf
    rw [List.map_map]
    conv => rhs; rw [← List.map_id s.data.toList]
    exact List.map_congr_left fun b _ => by simp
  rw [e]
theorem bytes_str {l : List Int} (h : Hand.bytesB l = true) : bytesOf (strOfNums l) = l := by
  show List.map _ (List.map _ l) = l
  rw [List.map_map]
  conv => rhs; rw [← List.map_id l]
  refine List.map_congr_left fun x hx => ?_
  have := of_decide_eq_true (List.all_eq_true.1 h x hx)
  show ((UInt8.ofNat x.toNat).toNat : Int) = x
  rw [UInt8.toNat_ofNat']; omega
theorem str_append (a b : List Int) : strOfNums (a ++ b) = strOfNums a ++ strOfNums b := by
  show ByteArray.mk _ = _
  apply ByteArray.ext
  rw [ByteArray.data_append]
  show (List.map _ (a ++ b)).toArray = (List.map _ a).toArray ++ (List.map _ b).toArray
  rw [List.map_append]; simp
theorem str_size (n : Nat) (f : PS) : (strOfNums (tb n f)).size = n := by rw [Hand.strOfNums_size, tb_length]
theorem str_of (s : ByteArray) : ∃ f, s = strOfNums (tb s.size f) := by
  obtain ⟨f, hf⟩ := tb_of (Hand.bytesB_bytesOf s)
  exact ⟨f, by rw [show s.size = (bytesOf s).length from (bytesOf_length s).symm, ← hf, str_bytes]⟩
theorem bytes_tb (n : Nat) (f : PS) : bytesOf (strOfNums (tb n f)) = tb n f := bytes_str (tb_bytes n f)
theorem bt_rd (s : ByteArray) (i : Int) : bt s i = rd (bytesOf s) i := by
  unfold bt rd bytesOf
  rw [List.getD_eq_getElem?_getD, List.getElem?_map]
  split
  · rename_i h
    rw [List.getElem?_eq_getElem (by exact h)]; rfl
  · rename_i h
    rw [List.getElem?_eq_none (by simpa using h)]; rfl
theorem bt_tb (n : Nat) (f : PS) (i : Nat) (h : i < n) : bt (strOfNums (tb n f)) (i : Int) = (((f i).v : Nat) : Int) := by rw [bt_rd, bytes_tb, tb_rd n f i h]
theorem str_inj {n : Nat} {f g : PS} (h : strOfNums (tb n f) = strOfNums (tb n g)) : tb n f = tb n g := by rw [← bytes_tb n f, h, bytes_tb]
theorem toList_inj {a b : ByteArray} (h : a.toList = b.toList) : a = b := by
  rw [Go.ByteArray.toList_eq, Go.ByteArray.toList_eq] at h
  exact ByteArray.ext (Array.toList_inj.1 h)
/-! field words -/
theorem xor8G (a b : GF) : Go.bits .xor .u8 ((a.v : Nat) : Int) ((b.v : Nat) : Int) = (((a + b).v : Nat) : Int) := Hand.xor8 _ _ a.v_lt b.v_lt
theorem xor64G (a b : GF) : Go.bits .xor .i64 ((a.v : Nat) : Int) ((b.v : Nat) : Int) = (((a + b).v : Nat) : Int) := Hand.xor64 _ _ (by have := a.v_lt; omega) (by have := b.v_lt; omega)
theorem mulG (a b : GF) : Hand.label_mul.f ((a.v : Nat) : Int) ((b.v : Nat) : Int) = some (((a * b).v : Nat) : Int) := mulT a.v_lt b.v_lt
theorem refMulG (a b : GF) : Ev (fun k => silversideref03_Mul.f k ((a.v : Nat) : Int) ((b.v : Nat) : Int)) (((a * b).v : Nat) : Int) := refMulE a.v_lt b.v_lt
theorem expG (i : Nat) (h : i ≤ 100000) : Hand.label_exp.f (i : Int) = some (((al i).v : Nat) : Int) := by
  unfold Hand.label_exp.f
  rw [if_pos (by omega), show ((i : Int) % 255).toNat = i % 255 from by omega, ← Rs.pw_mod]; rfl
theorem invG {a : GF} (h : a ≠ 0) : Hand.label_inv.f ((a.v : Nat) : Int) = some (((a.inv).v : Nat) : Int) := invT a.v_lt
theorem wv (a : GF) : wrap64 ((a.v : Nat) : Int) = ((a.v : Nat) : Int) := w64 (by omega) (by have := a.v_lt; omega)
/-! ### products -/
theorem tl_cut (n : Nat) (f : PS) : tl (cut (n + 1) f) = cut n (tl f) := by
  funext j; show (if j + 1 < n + 1 then f (j + 1) else 0) = if j < n then f (j + 1) else 0
  simp only [Nat.add_lt_add_iff_right]
theorem cut_zero (f : PS) : cut 0 f = fun _ => 0 := by funext j; unfold cut; rw [if_neg (by omega)]
theorem tin_tb (x : GF) (m : Nat) (n : Nat) : ∀ (q : PS) (a : Nat) (out : PS), Hand.tin ((x.v : Nat) : Int) (tb m q) a (tb n out) = tb n (fun j => out j + (if a ≤ j then x * cut m q (j - a) else 0)) := by
  induction m with
  | zero =>
    intro q a out
    show tb n out = _
    refine tb_congr fun j _ => ?_
    rw [cut_zero]
    split
    · rw [Rs.GF.mul_zero, Rs.GF.add_zero]
    · rw [Rs.GF.add_zero]
  | succ m ih =>
    intro q a out
    rw [tb_succ]
    show Hand.tin _ (tb m (tl q)) (a + 1) ((tb n out).set a (Go.bits .xor .u8 (rd (tb n out) a) (Rs.mulN (x.v : Int).toNat ((q 0).v : Int).toNat : Nat))) = _
    by_cases han : a < n
    · rw [tb_rd n out a han, Int.toNat_natCast, Int.toNat_natCast, ← Rs.GF.v_mul, xor8G, tb_set, ih]
      refine tb_congr fun j _ => ?_
      by_cases e : j = a
      · subst e
        rw [if_pos rfl, if_neg (by omega), if_pos (Nat.le_refl _), Nat.sub_self, Rs.GF.add_zero]
        unfold cut; rw [if_pos (by omega)]
      · rw [if_neg e]
        by_cases h : a ≤ j
        · obtain ⟨t, rfl⟩ : ∃ t, j = a + 1 + t := ⟨j - a - 1, by omega⟩
          rw [if_pos (by omega), if_pos h, Nat.add_sub_cancel_left, show a + 1 + t - a = t + 1 from by omega, ← tl_cut]; rfl
        · rw [if_neg (by omega), if_neg h]
    · rw [List.set_eq_of_length_le (by rw [tb_length]; omega), ih]
      refine tb_congr fun j hj => ?_
      rw [if_neg (by omega), if_neg (by omega)]
theorem tout_tb (m n : Nat) (q : PS) (k : Nat) : ∀ (p : PS) (a : Nat) (out : PS), Hand.tout (tb m q) (tb k p) a (tb n out) = tb n (fun j => out j + (if a ≤ j then cv (j - a) (cut k p) (cut m q) else 0)) := by
  induction k with
  | zero =>
    intro p a out
    show tb n out = _
    refine tb_congr fun j _ => ?_
    rw [cut_zero]
    split
    · rw [cv_zero_left, Rs.GF.add_zero]
    · rw [Rs.GF.add_zero]
  | succ k ih =>
    intro p a out
    rw [tb_succ]
    show Hand.tout (tb m q) (tb k (tl p)) (a + 1) (Hand.tin _ (tb m q) a (tb n out)) = _
    rw [tin_tb, ih]
    refine tb_congr fun j _ => ?_
    by_cases h : a ≤ j
    · rw [if_pos h, if_pos h]
      by_cases e : j = a
      · subst e
        rw [if_neg (by omega), Rs.GF.add_zero, Nat.sub_self]; rfl
      · obtain ⟨t, rfl⟩ : ∃ t, j = a + 1 + t := ⟨j - a - 1, by omega⟩
        rw [if_pos (by omega), show a + 1 + t - a = t + 1 from by omega, show a + 1 + t - (a + 1) = t from by omega, Rs.GF.add_assoc, ← tl_cut]; rfl
    · rw [if_neg h, if_neg h, if_neg (by omega), Rs.GF.add_zero]
theorem timesG (k m n : Nat) (p q : PS) (hk : k ≤ 100000) (hm : m ≤ 100000) (hn : n ≤ 100000) : Hand.label_times.f (tb k p) (tb m q) (n : Int) = some (tb n (fun j => cv j (cut k p) (cut m q))) := by
  unfold Hand.label_times.f
  rw [if_pos ⟨by omega, by omega, by rw [tb_length]; omega, by rw [tb_length]; omega, tb_bytes _ _, tb_bytes _ _⟩, Int.toNat_natCast, tb_zero, tout_tb]
  congr 1
  refine tb_congr fun j _ => ?_
  rw [if_pos (Nat.zero_le _), Nat.sub_zero, Rs.GF.zero_add]
open Rs (PS GF hv gen gen_zero gen_deg nx en cut wd cv cv_congr cv_comm cv_zero_left cv_add_left cv_smul_left st sh tl loc als cnt)
open Rs.GF (al)
/-! ### the generator, and Encode -/
theorem two_tb (a b : GF) : ([((a.v : Nat) : Int), ((b.v : Nat) : Int)] : List Int) = tb 2 (fun j => if j = 0 then a else b) := rfl
theorem cv_two (a b : GF) (g : PS) (k : Nat) : cv k (cut 2 (fun j => if j = 0 then a else b)) g = a * g k + b * sh g k := by
  cases k with
  | zero => show a * g 0 = a * g 0 + b * 0; rw [Rs.GF.mul_zero, Rs.GF.add_zero]
  | succ k =>
    show a * g (k + 1) + cv k (tl (cut 2 (fun j => if j = 0 then a else b))) g = a * g (k + 1) + b * g k
    rw [tl_cut, Rs.cv_first k _ _ (fun i h _ => .inl (by unfold cut; rw [if_neg (by omega)]))]
    rfl
/-- the generator, that of the lowest power first -/
def gup (p : Nat) : PS := fun k => gen p (p - k)
theorem gup_step (i j : Nat) (h : j < i + 2) : cv j (cut (i + 1) (gup i)) (cut 2 (fun j => if j = 0 then al i else 1)) = gup (i + 1) j := by
  rw [cv_comm, cv_two, Rs.GF.one_mul]
  show _ = st (al i) (gen i) (i + 1 - j)
  unfold st
  cases j with
  | zero =>
    show al i * cut (i + 1) (gup i) 0 + 0 = gen i (i + 1) + al i * gen i i
    rw [Rs.GF.add_zero, gen_deg i (i + 1) (by omega), Rs.GF.zero_add]
    unfold cut; rw [if_pos (by omega)]; rfl
  | succ j =>
    show al i * cut (i + 1) (gup i) (j + 1) + cut (i + 1) (gup i) j = gen i (i + 1 - (j + 1)) + al i * sh (gen i) (i + 1 - (j + 1))
    have e1 : cut (i + 1) (gup i) j = gen i (i + 1 - (j + 1)) := by unfold cut gup; rw [if_pos (by omega)]; congr 1; omega
    rw [e1, Rs.GF.add_comm]
    congr 1
    by_cases e : j = i
    · subst e
      rw [show j + 1 - (j + 1) = 0 from by omega]
      show al j * cut (j + 1) (gup j) (j + 1) = al j * 0
      unfold cut; rw [if_neg (by omega)]
    · rw [show i + 1 - (j + 1) = (i - (j + 1)) + 1 from by omega]
      show al i * cut (i + 1) (gup i) (j + 1) = al i * gen i (i - (j + 1))
      unfold cut; rw [if_pos (by omega)]; rfl
theorem generator_l0 (p m : Nat) (hp : p ≤ 1000) : ∀ i, i + m = p → Ev (fun k => label_generator.l0 k (tb (i + 1) (gup i)) (p : Int) (i : Int)) (tb (p + 1) (gup p)) := by
  induction m with
  | zero =>
    intro i hi
    obtain rfl : i = p := by omega
    refine Ev.step (f := fun k => _) (fun k => by rw [label_generator.l0]) ?_
    exact Ev.neg (by omega) (Ev.now _)
  | succ m ih =>
    intro i hi
    refine Ev.step (f := fun k => _) (fun k => by rw [label_generator.l0]) ?_
    refine Ev.pos (by omega) (Ev.bind' (expG i (by omega)) ?_)
    have e := timesG (i + 1) 2 (i + 2) (gup i) (fun j => if j = 0 then al i else 1) (by omega) (by omega) (by omega)
    rw [tb_congr (fun j hj => gup_step i j hj)] at e
    refine Ev.bind' (a := tb (i + 2) (gup (i + 1))) ?_ ?_
    · rw [w64 (by omega) (by omega), show (i : Int) + 2 = ((i + 2 : Nat) : Int) from by omega]; exact e
    · rw [w64 (by omega) (by omega), show (i : Int) + 1 = ((i + 1 : Nat) : Int) from by omega]
      exact ih (i + 1) (by omega)
theorem generatorG (p : Nat) (hp : p ≤ 1000) : Ev (fun k => label_generator.f k (p : Int)) (tb (p + 1) (gup p)) := by
  unfold label_generator.f
  have e : ([1] : List Int) = tb 1 (gup 0) := rfl
  rw [e]; exact generator_l0 p p hp 0 (by omega)
theorem encK_tb (p i N : Nat) (c : GF) (m : Nat) : ∀ (k : Nat) (R : PS), k + m = p → i + 1 + p ≤ N →
    encK (tb (p + 1) (gup p)) p i ((c.v : Nat) : Int) m k (tb N R) = tb N (fun j => if i + 1 + k ≤ j then R j + c * gen p (j - i) else R j) := by
  induction m with
  | zero =>
    intro k R hk hN
    show tb N R = _
    refine tb_congr fun j _ => ?_
    split
    · rw [gen_deg p (j - i) (by omega), Rs.GF.mul_zero, Rs.GF.add_zero]
    · rfl
  | succ m ih =>
    intro k R hk hN
    show encK _ p i _ m (k + 1) ((tb N R).set (i + 1 + k) (Go.bits .xor .u8 (rd (tb N R) (i + 1 + k : Nat)) (Rs.mulN ((c.v : Nat) : Int).toNat (rd (tb (p + 1) (gup p)) (p - 1 - k : Nat)).toNat : Nat))) = _
    rw [tb_rd N R _ (by omega), tb_rd (p + 1) (gup p) _ (by omega), Int.toNat_natCast, Int.toNat_natCast, ← Rs.GF.v_mul, xor8G, tb_set, ih (k + 1) _ (by omega) hN]
    refine tb_congr fun j _ => ?_
    by_cases e : j = i + 1 + k
    · subst e
      rw [if_pos rfl, if_neg (by omega), if_pos (Nat.le_refl _)]
      unfold gup; rw [show p - (p - 1 - k) = i + 1 + k - i from by omega]
    · rw [if_neg e]
      by_cases h : i + 1 + k ≤ j
      · rw [if_pos h, if_pos (by omega)]
      · rw [if_neg h, if_neg (by omega)]
theorem encI_tb (p n : Nat) (m : Nat) : ∀ (i : Nat) (R : PS), i + m = n →
    ∃ R', encI (tb (p + 1) (gup p)) p m i (tb (n + p) R) = tb (n + p) R' ∧ ∀ t, R' (n + t) = en (gen p) m (fun j => R (i + j)) t := by
  induction m with
  | zero => intro i R hi; exact ⟨R, rfl, fun t => by rw [show n = i from by omega]; rfl⟩
  | succ m ih =>
    intro i R hi
    obtain ⟨R', h1, h2⟩ := ih (i + 1) (fun j => if i + 1 + 0 ≤ j then R j + R i * gen p (j - i) else R j) (by omega)
    refine ⟨R', ?_, fun t => ?_⟩
    · show encI _ p m (i + 1) (encK _ p i (rd (tb (n + p) R) i) p 0 (tb (n + p) R)) = _
      rw [tb_rd _ R i (by omega), encK_tb p i (n + p) (R i) p 0 R (by omega) (by omega)]
      exact h1
    · rw [h2 t]
      show en (gen p) m _ t = en (gen p) m (nx (gen p) (fun j => R (i + j))) t
      refine Rs.en_congr _ _ _ _ (fun j => ?_) t
      show (if i + 1 + 0 ≤ i + 1 + j then R (i + 1 + j) + R i * gen p (i + 1 + j - i) else R (i + 1 + j)) = R (i + (j + 1)) + R (i + 0) * gen p (j + 1)
      rw [if_pos (by omega), show i + 1 + j - i = j + 1 from by omega, show i + (j + 1) = i + 1 + j from by omega]; rfl
theorem start_tb (n p : Nat) (f : PS) : tb n f ++ List.replicate p (0 : Int) = tb (n + p) (cut n f) := by
  rw [tb_zero, tb_append]; rfl
theorem wd_tb (n p : Nat) (f R : PS) (h : ∀ t, R (n + t) = en (gen p) n (cut n f) t) : tb n f ++ (tb (n + p) R).drop n = tb (n + p) (wd n p f) := by
  rw [tb_drop, tb_append]
  refine tb_congr fun j _ => ?_
  unfold wd
  split
  · rfl
  · rw [h (j - n)]
theorem parG (n p : Nat) (hp : p ≤ 64) : label_isParameters.f (n : Int) (p : Int) = some (decide (p < n ∧ n ≤ 255)) := by
  unfold label_isParameters.f
  rw [if_pos (by omega), if_pos (by omega), w64 (by omega) (by omega)]
  by_cases h : p < n
  · rw [if_pos (by omega)]; congr 1; exact decide_eq_decide.2 (by omega)
  · rw [if_neg (by omega)]; congr 1; exact (decide_eq_false (by omega)).symm
theorem EncodeG (n p : Nat) (f : PS) (hn : 0 < n) (hp : p ≤ 64) (hN : n + p ≤ 255) : Ev (fun k => label_Encode.f k (strOfNums (tb n f)) (p : Int)) (strOfNums (tb (n + p) (wd n p f)), 0) := by
  unfold label_Encode.f
  refine Ev.neg (by omega) (Ev.neg (by omega) ?_)
  rw [str_size, w64 (by omega) (by omega), show (n : Int) + p = ((n + p : Nat) : Int) from by omega]
  refine Ev.bind' (parG (n + p) p hp) (Ev.pos (decide_eq_true (by omega)) (Ev.bind (generatorG p (by omega)) ?_))
  refine Ev.pos ⟨tb_bytes _ _, by rw [tb_length]; omega, by omega, hn⟩ ?_
  obtain ⟨R, h1, h2⟩ := encI_tb p n n 0 (cut n f) (by omega)
  rw [Int.toNat_natCast, bytes_tb, start_tb, h1, ← str_append, wd_tb n p f R (fun t => by rw [h2 t]; exact Rs.en_congr _ _ _ _ (fun j => by rw [Nat.zero_add]) t)]
  exact Ev.now _
theorem EncodeBad (s : ByteArray) (p : Int) (h : p < 0 ∨ p > 64 ∨ ¬ (0 < s.size ∧ (s.size : Int) + p ≤ 255)) (hs : s.size ≤ 300) : Ev (fun k => label_Encode.f k s p) (⟨#[]⟩, 2) := by
  unfold label_Encode.f
  by_cases h0 : p < 0
  · exact Ev.pos h0 (Ev.now _)
  · by_cases h1 : p > 64
    · exact Ev.neg h0 (Ev.pos h1 (Ev.now _))
    · obtain ⟨q, rfl⟩ := Int.eq_ofNat_of_zero_le (show 0 ≤ p by omega)
      refine Ev.neg h0 (Ev.neg h1 ?_)
      rw [w64 (by omega) (by omega), show (s.size : Int) + q = ((s.size + q : Nat) : Int) from by omega]
      exact Ev.bind' (parG (s.size + q) q (by omega)) (Ev.neg (by simp; omega) (Ev.now _))
open Rs (PS GF hv gen nx en cut wd cv st sh tl loc als cnt)
open Rs.GF (al)
/-! ### syndromes, and whether all are 0 -/
/-- the values of a word of n elements at the powers of 2 -/
def sy (n : Nat) (f : PS) : PS := fun i => hv n f (al i)
def zB (n : Nat) (f : PS) : Bool := (List.range n).all fun j => decide (f j = 0)
theorem zB_iff (n : Nat) (f : PS) : zB n f = true ↔ ∀ j, j < n → f j = 0 := by
  unfold zB
  rw [List.all_eq_true]
  exact ⟨fun h j hj => of_decide_eq_true (h j (List.mem_range.2 hj)), fun h j hj => decide_eq_true (h j (List.mem_range.1 hj))⟩
theorem zB_false {n : Nat} {f : PS} {j : Nat} (hj : j < n) (h : f j ≠ 0) : zB n f = false := by
  cases e : zB n f with
  | false => rfl
  | true => exact absurd ((zB_iff n f).1 e j hj) h
theorem v0 (a : GF) : ((a.v : Nat) : Int) = 0 ↔ a = 0 := by
  constructor
  · intro h; exact Rs.GF.ext (by show a.v = 0; omega)
  · rintro rfl; rfl
theorem zero_l0 (n : Nat) (f : PS) (hn : n ≤ 100000) (m : Nat) : ∀ i, i + m = n → (∀ j, j < i → f j = 0) → Ev (fun k => label_zero.l0 k (tb n f) (n : Int) (i : Int)) (zB n f) := by
  induction m with
  | zero =>
    intro i hi h
    obtain rfl : i = n := by omega
    refine Ev.step (f := fun k => _) (fun k => by rw [label_zero.l0]) ?_
    rw [(zB_iff i f).2 h]
    exact Ev.neg (by omega) (Ev.now _)
  | succ m ih =>
    intro i hi h
    refine Ev.step (f := fun k => _) (fun k => by rw [label_zero.l0]) ?_
    refine Ev.pos (by omega) (Ev.pos (by omega) (Ev.pos (by rw [tb_length]; omega) ?_))
    rw [tb_rd n f i (by omega)]
    by_cases h0 : f i = 0
    · refine Ev.pos ((v0 _).2 h0) ?_
      rw [w64 (by omega) (by omega)]
      exact ih (i + 1) (by omega) (fun j hj => by
        by_cases e : j = i
        · rw [e]; exact h0
        · exact h j (by omega))
    · rw [zB_false (show i < n by omega) h0]
      exact Ev.neg (fun e => h0 ((v0 _).1 e)) (Ev.now _)
theorem zeroG (n : Nat) (f : PS) (hn : n ≤ 100000) : Ev (fun k => label_zero.f k (tb n f)) (zB n f) := by
  unfold label_zero.f
  rw [tb_length]; exact zero_l0 n f hn n 0 (by omega) (fun j hj => by omega)
theorem syn_l1 (n p i : Nat) (f : PS) (r : List Int) (hi : i < p) (hp : p ≤ 1000) (hn : n ≤ 100000) (m : Nat) : ∀ (t : Nat) (out : PS), t + m = n → out i = hv t f (al i) →
    Ev (fun k => label_syndromes.l0 k (tb n f) (tb p (fun j => if j = i then hv n f (al i) else out j)) (p : Int) ((i + 1 : Nat) : Int)) r →
    Ev (fun k => label_syndromes.l1 k (tb n f) (tb p out) (i : Int) (p : Int) (i : Int) (tb n f) (n : Int) (t : Int)) r := by
  induction m with
  | zero =>
    intro t out ht ho h
    obtain rfl : t = n := by omega
    refine Ev.step (f := fun k => _) (fun k => by rw [label_syndromes.l1]) ?_
    refine Ev.neg (by omega) ?_
    rw [w64 (by omega) (by omega), show (i : Int) + 1 = ((i + 1 : Nat) : Int) from by omega]
    rw [tb_congr (n := p) (f := fun j => if j = i then hv t f (al i) else out j) (g := out) (fun j _ => by
      by_cases e : j = i
      · rw [if_pos e, e, ho]
      · rw [if_neg e])] at h
    exact h
  | succ m ih =>
    intro t out ht ho h
    refine Ev.step (f := fun k => _) (fun k => by rw [label_syndromes.l1]) ?_
    rw [w64 (n := (t : Int) + 1) (by omega) (by omega)]
    refine Ev.pos (by omega) (Ev.pos (by omega) (Ev.pos (by rw [tb_length]; omega) (Ev.pos (by omega) (Ev.pos (by rw [tb_length]; omega) (Ev.bind' (expG i (by omega)) ?_)))))
    rw [tb_rd p out i hi, tb_rd n f t (by omega), Int.toNat_natCast]
    refine Ev.bind' (mulG (out i) (al i)) ?_
    rw [xor8G, tb_set]
    refine ih (t + 1) _ (by omega) (by rw [if_pos rfl, Rs.hv_horner, ho]) ?_
    rw [tb_congr (n := p) (f := fun j => if j = i then hv n f (al i) else (if j = i then out i * al i + f t else out j)) (g := fun j => if j = i then hv n f (al i) else out j) (fun j _ => by
      by_cases e : j = i
      · rw [if_pos e, if_pos e]
      · rw [if_neg e, if_neg e, if_neg e])]
    exact h
theorem syn_l0 (n p : Nat) (f : PS) (hp : p ≤ 1000) (hn : n ≤ 100000) (m : Nat) : ∀ (i : Nat), i + m = p →
    Ev (fun k => label_syndromes.l0 k (tb n f) (tb p (fun j => if j < i then sy n f j else 0)) (p : Int) (i : Int)) (tb p (sy n f)) := by
  induction m with
  | zero =>
    intro i hi
    obtain rfl : i = p := by omega
    refine Ev.step (f := fun k => _) (fun k => by rw [label_syndromes.l0]) ?_
    refine Ev.neg (by omega) ?_
    rw [tb_congr (n := i) (f := fun j => if j < i then sy n f j else 0) (g := sy n f) (fun j hj => if_pos hj)]
    exact Ev.now _
  | succ m ih =>
    intro i hi
    refine Ev.step (f := fun k => _) (fun k => by rw [label_syndromes.l0]) ?_
    refine Ev.pos (by omega) ?_
    rw [tb_length]
    refine syn_l1 n p i f _ (by omega) hp hn n 0 _ (by omega) (by rw [if_neg (by omega)]; rfl) ?_
    have e := ih (i + 1) (by omega)
    rw [tb_congr (n := p) (f := fun j => if j < i + 1 then sy n f j else 0) (g := fun j => if j = i then hv n f (al i) else (if j < i then sy n f j else 0)) (fun j _ => by
      by_cases e : j = i
      · subst e; rw [if_pos (by omega), if_pos rfl]; rfl
      · rw [if_neg e]
        by_cases h : j < i
        · rw [if_pos h, if_pos (by omega)]
        · rw [if_neg h, if_neg (by omega)])] at e
    exact e
theorem synG (n p : Nat) (f : PS) (hp : p ≤ 1000) (hn : n ≤ 100000) : Ev (fun k => label_syndromes.f k (tb n f) (p : Int)) (tb p (sy n f)) := by
  unfold label_syndromes.f
  refine Ev.pos (by omega) (Ev.pos (by omega) (Ev.bind' rfl ?_))
  rw [List.length_replicate, Int.toNat_natCast, tb_zero]
  exact syn_l0 n p f hp hn p 0 (by omega)
end Go.Proofs.Ytdgjanjoiabgfaa.Pure
