/- Decode mends a word that is near a codeword; what spoilt does. -/
import Derived.Test.YtdgjanjoiabgfaaQ19
import Derived.Test.YtdgjanjoiabgfaaUY
namespace Go.Proofs.Ytdgjanjoiabgfaa.Pure
open Go.RowKit Go.Proofs.Ytdgjanjoiabgfaa.Q Go.Proofs.YtdgjanjoiabgfaaW.PrintWords Go.Proofs.YtdgjanjoiabgfaaW.PrintLast Go.Proofs.YtdgjanjoiabgfaaW.PrintMore
set_option linter.unusedVariables false
set_option linter.unusedSimpArgs false
open Rs (PS GF hv gen nx en cut wd cv st sh tl loc dl dv ev cnt ps om nz spf Sp Bm)
open Rs.GF (al)
/-! ### Decode mends what is lost and what is wrong -/
theorem cv_loc_sh (k : Nat) (A b : PS) : sh (fun k => cv k A b) k = cv k A (sh b) := by
  rw [Rs.cv_comm k A (sh b), Rs.cv_sh]
  cases k with
  | zero => rfl
  | succ k => exact Rs.cv_comm k A b
theorem cv_free (r : Nat) (A c S : PS) : cv r (fun k => cv k A c) S = cv r c (fun k => cv k A S) := by
  rw [Rs.cv_assoc, Rs.cv_left_comm]
theorem bm_ok (S A sg : PS) (g v p : Nat) (s0 : sg 0 = 1) (sd : ∀ k, v < k → sg k = 0) (sz : ∀ j, g + v ≤ j → j < p → cv j sg (fun k => cv k A S) = 0) (m : Nat) : ∀ (r len : Nat) (c b : PS), r + m = p → Bm (fun k => cv k A S) g v r c b len →
    ∃ c' b' len', Bm (fun k => cv k A S) g v p c' b' len' ∧ bm S g m (fun k => cv k A c) (fun k => cv k A b) len r = fun k => cv k A c' := by
  induction m with
  | zero =>
    intro r len c b hr h
    obtain rfl : r = p := by omega
    exact ⟨c, b, len, h, rfl⟩
  | succ m ih =>
    intro r len c b hr h
    unfold bm
    rw [cv_free, show sh (fun k => cv k A b) = fun k => cv k A (sh b) from funext fun k => cv_loc_sh k A b]
    by_cases hd : cv r c (fun k => cv k A S) = 0
    · rw [if_pos hd]
      exact ih (r + 1) len c (sh b) (by omega) (h.same hd)
    · rw [if_neg hd]
      have e1 : (fun j => cv j A c + cv r c (fun k => cv k A S) * cv j A (sh b)) = fun j => cv j A (fun k => c k + cv r c (fun k => cv k A S) * sh b k) := by
        funext j; rw [Rs.cv_add_right, Rs.cv_smul_right]
      rw [e1]
      by_cases h2 : 2 * len ≤ r + g
      · rw [if_pos h2]
        have e2 : (fun j => (cv r c (fun k => cv k A S)).inv * cv j A c) = fun j => cv j A (fun k => (cv r c (fun k => cv k A S)).inv * c k) := by
          funext j; rw [Rs.cv_smul_right]
        rw [e2]
        exact ih (r + 1) _ _ _ (by omega) (h.turn s0 sd sz (by omega) hd h2)
      · rw [if_neg h2]
        exact ih (r + 1) _ _ _ (by omega) (h.keep h2)
/-- the lost places and what is wrong there -/
def lst (n : Nat) (e : PS) (D : List Nat) : Sp := D.map fun i => (al (n - 1 - i), e i)
/-- the wrong places that are not lost -/
def frs (n : Nat) (e : PS) (D : List Nat) : Sp := nz (spf n (oth D e))
theorem lst_fst (n : Nat) (e : PS) (D : List Nat) : (lst n e D).map Prod.fst = pl n D := by unfold lst pl; rw [List.map_map]; rfl
theorem hv_dlt (x : GF) (n : Nat) : ∀ i, i < n → hv n (Rs.dlt i) x = x.pow (n - 1 - i) := by
  induction n with
  | zero => intro i h; omega
  | succ n ih =>
    intro i h
    cases i with
    | zero =>
      show Rs.dlt 0 0 * x.pow n + hv n (tl (Rs.dlt 0)) x = x.pow n
      rw [Rs.hv_none n x _ (fun j _ => by show (if j + 1 = 0 then (1 : GF) else 0) = 0; rw [if_neg (by omega)]), show Rs.dlt 0 0 = 1 from rfl, Rs.GF.one_mul, Rs.GF.add_zero]
    | succ i =>
      show Rs.dlt (i + 1) 0 * x.pow n + hv n (tl (Rs.dlt (i + 1))) x = _
      rw [show tl (Rs.dlt (i + 1)) = Rs.dlt i from funext fun t => by show (if t + 1 = i + 1 then (1 : GF) else 0) = if t = i then 1 else 0; simp only [Nat.add_right_cancel_iff]]
      rw [show Rs.dlt (i + 1) 0 = 0 from rfl, Rs.GF.zero_mul, Rs.GF.zero_add, ih i (by omega), show n - 1 - i = n + 1 - 1 - (i + 1) from by omega]
theorem oth_cons (i : Nat) (D : List Nat) (e : PS) (h : i ∉ D) : oth D e = fun j => oth (i :: D) e j + e i * Rs.dlt i j := by
  funext j
  unfold oth Rs.dlt
  by_cases ej : j = i
  · subst ej; rw [if_neg h, if_pos (by simp), if_pos rfl, Rs.GF.mul_one, Rs.GF.zero_add]
  · rw [if_neg ej, Rs.GF.mul_zero, Rs.GF.add_zero]
    by_cases hD : j ∈ D
    · rw [if_pos hD, if_pos (by simp [hD])]
    · rw [if_neg hD, if_neg (by simp [hD, ej])]
theorem hv_lost (n i : Nat) (e : PS) (D : List Nat) (hn : D.Nodup) (hD : ∀ j, j ∈ D → j < n) : hv n e (al i) = ps (lst n e D) i + ps (frs n e D) i := by
  unfold frs
  rw [Rs.nz_ps, ← Rs.hv_ps]
  induction D with
  | nil =>
    rw [show oth [] e = e from funext fun j => by unfold oth; rw [if_neg (by simp)]]
    exact (Rs.GF.zero_add _).symm
  | cons j D ih =>
    rw [ih (List.nodup_cons.1 hn).2 (fun k hk => hD k (by simp [hk])), oth_cons j D e (List.nodup_cons.1 hn).1, Rs.hv_add, Rs.hv_smul, hv_dlt _ _ _ (hD j (by simp))]
    show ps (lst n e D) i + (_ + e j * (al i).pow (n - 1 - j)) = e j * (al (n - 1 - j)).pow i + ps (lst n e D) i + _
    rw [Rs.pow_al, Rs.pow_al, Nat.mul_comm]
    ac_rfl
theorem frs_mem {n : Nat} {e : PS} {D : List Nat} {Xe : GF × GF} (h : Xe ∈ frs n e D) : ∃ j, j < n ∧ j ∉ D ∧ e j ≠ 0 ∧ Xe = (al (n - 1 - j), e j) := by
  obtain ⟨h1, h2⟩ := List.mem_filter.1 h
  obtain ⟨j, hj, rfl⟩ := Rs.spf_mem n _ _ h1
  have h3 : oth D e j ≠ 0 := of_decide_eq_true h2
  by_cases hD : j ∈ D
  · exact absurd (show oth D e j = 0 by unfold oth; rw [if_pos hD]) h3
  · have : oth D e j = e j := by unfold oth; rw [if_neg hD]
    rw [this] at h3
    exact ⟨j, hj, hD, h3, by rw [this]⟩
theorem mem_frs {n : Nat} {e : PS} {D : List Nat} {j : Nat} (hj : j < n) (hD : j ∉ D) (he : e j ≠ 0) : (al (n - 1 - j), e j) ∈ frs n e D := by
  have : oth D e j = e j := by unfold oth; rw [if_neg hD]
  refine List.mem_filter.2 ⟨?_, decide_eq_true he⟩
  have h := Rs.mem_spf n (oth D e) j hj
  rw [this] at h; exact h
theorem frs_length (n : Nat) (e : PS) (D : List Nat) : (frs n e D).length = cnt n (oth D e) := Rs.nz_length n _
theorem pl_mem {n : Nat} {D : List Nat} (hN : n ≤ 255) (hD : ∀ j, j ∈ D → j < n) {j : Nat} (hj : j < n) : al (n - 1 - j) ∈ pl n D ↔ j ∈ D := by
  unfold pl
  rw [List.mem_map]
  constructor
  · rintro ⟨i, hi, e⟩
    have := hD i hi
    have := Rs.GF.al_inj (by omega) (by omega) e
    obtain rfl : i = j := by omega
    exact hi
  · intro h; exact ⟨j, h, rfl⟩
theorem pl_nodup {n : Nat} (hN : n ≤ 255) : ∀ (D : List Nat), D.Nodup → (∀ j, j ∈ D → j < n) → (pl n D).Nodup := by
  intro D
  induction D with
  | nil => intro _ _; exact List.nodup_nil
  | cons i D ih =>
    intro hn hD
    refine List.nodup_cons.2 ⟨fun hm => ?_, ih (List.nodup_cons.1 hn).2 (fun j hj => hD j (by simp [hj]))⟩
    exact (List.nodup_cons.1 hn).1 ((pl_mem hN (fun j hj => hD j (by simp [hj])) (hD i (by simp))).1 hm)
theorem all_nodup {n : Nat} (hN : n ≤ 255) (e : PS) (D : List Nat) (hn : D.Nodup) (hD : ∀ j, j ∈ D → j < n) : ((lst n e D ++ frs n e D).map Prod.fst).Nodup := by
  rw [List.map_append, lst_fst]
  refine List.nodup_append.2 ⟨pl_nodup hN D hn hD, Rs.nz_nodup n _ hN, ?_⟩
  intro a ha b hb hab
  obtain ⟨Xe, hm, rfl⟩ := List.mem_map.1 hb
  obtain ⟨j, hj, hjD, _, rfl⟩ := frs_mem hm
  rw [hab] at ha
  exact hjD ((pl_mem hN hD hj).1 ha)
theorem all_mem {n : Nat} {e : PS} {D : List Nat} {Xe : GF × GF} (hD : ∀ j, j ∈ D → j < n) (h : Xe ∈ lst n e D ++ frs n e D) : ∃ j, j < n ∧ Xe = (al (n - 1 - j), e j) := by
  rcases List.mem_append.1 h with h | h
  · obtain ⟨i, hi, rfl⟩ := List.mem_map.1 h
    exact ⟨i, hD i hi, rfl⟩
  · obtain ⟨j, hj, _, _, rfl⟩ := frs_mem h
    exact ⟨j, hj, rfl⟩
theorem mem_all {n : Nat} {e : PS} {D : List Nat} {j : Nat} (hj : j < n) (h : j ∈ D ∨ e j ≠ 0) : (al (n - 1 - j), e j) ∈ lst n e D ++ frs n e D := by
  by_cases hD : j ∈ D
  · exact List.mem_append.2 (.inl (List.mem_map.2 ⟨j, hD, rfl⟩))
  · exact List.mem_append.2 (.inr (mem_frs hj hD (h.resolve_left hD)))
theorem freed_fst (G : List GF) (E : Sp) : (E.map (Rs.freed G)).map Prod.fst = E.map Prod.fst := by rw [List.map_map]; rfl
/-- what the word's values tell of the places that are lost or wrong -/
theorem bm_loc (n p : Nat) (S e : PS) (D : List Nat) (hN : n ≤ 255) (hn : D.Nodup) (hD : ∀ j, j ∈ D → j < n) (hS : ∀ i, i < p → S i = hv n e (al i)) (hp : D.length + 2 * cnt n (oth D e) ≤ p) :
    bm S D.length (p - D.length) (loc (pl n D)) (loc (pl n D)) D.length D.length = loc ((lst n e D ++ frs n e D).map Prod.fst) := by
  have hG : (pl n D).length = D.length := by unfold pl; rw [List.length_map]
  have hE : (frs n e D).length = cnt n (oth D e) := frs_length n e D
  have hT : ∀ j, D.length ≤ j → j < p → cv j (loc (pl n D)) S = ps ((frs n e D).map (Rs.freed (pl n D))) (j - D.length) := by
    intro j h1 h2
    rw [Rs.cv_congr j _ (loc (pl n D)) S (fun k => ps (lst n e D) k + ps (frs n e D) k) (fun _ _ => rfl) (fun i hi => by rw [hS i (by omega), hv_lost n i e D hn hD]), Rs.cv_add_right]
    have a1 := Rs.cv_loc_ps (lst n e D) j
    rw [lst_fst] at a1
    rw [a1, Rs.om_deg _ j (by unfold lst; rw [List.length_map]; exact h1), Rs.GF.zero_add, Rs.loc_ps _ _ j (by rw [hG]; exact h1), hG]
  have sz : ∀ j, D.length + cnt n (oth D e) ≤ j → j < p → cv j (loc ((frs n e D).map Prod.fst)) (fun k => cv k (loc (pl n D)) S) = 0 := by
    intro j h1 h2
    have e1 := Rs.cv_later D.length (j - D.length) (loc ((frs n e D).map Prod.fst)) (fun k => cv k (loc (pl n D)) S) (fun i hi => Rs.loc_deg _ i (by rw [List.length_map, hE]; omega))
    rw [show j - D.length + D.length = j from by omega] at e1
    rw [e1, Rs.cv_congr (j - D.length) _ (loc ((frs n e D).map Prod.fst)) _ (ps ((frs n e D).map (Rs.freed (pl n D)))) (fun _ _ => rfl) (fun i hi => by rw [hT (i + D.length) (by omega) (by omega), show i + D.length - D.length = i from by omega])]
    have a2 := Rs.cv_loc_ps ((frs n e D).map (Rs.freed (pl n D))) (j - D.length)
    rw [freed_fst] at a2
    rw [a2]; exact Rs.om_deg _ _ (by rw [List.length_map, hE]; omega)
  obtain ⟨c, b, len, h, hb⟩ := bm_ok S (loc (pl n D)) (loc ((frs n e D).map Prod.fst)) D.length (cnt n (oth D e)) p (Rs.loc_zero _) (fun k hk => Rs.loc_deg _ k (by rw [List.length_map, hE]; omega)) sz (p - D.length) D.length D.length dl dl (by omega) (Bm.start _ _ _)
  rw [show (fun k => cv k (loc (pl n D)) dl) = loc (pl n D) from funext fun k => by rw [Rs.cv_comm, Rs.cv_dl]] at hb
  rw [hb]
  have lv := h.lv
  obtain ⟨_, hc⟩ := Rs.gen_unique ((frs n e D).map (Rs.freed (pl n D))) (fun k => cv k (loc (pl n D)) S) D.length p len c
    (by rw [freed_fst]; exact Rs.nz_nodup n _ hN)
    (fun Xe hm => by
      obtain ⟨Ye, hy, rfl⟩ := List.mem_map.1 hm
      obtain ⟨j, hj, hjD, hje, rfl⟩ := frs_mem hy
      exact Rs.freed_ne _ _ _ hje (fun hx => hjD ((pl_mem hN hD hj).1 hx)))
    hT h.c0 h.gl h.cd (by rw [List.length_map, hE]; exact lv) (by rw [List.length_map, hE]; omega) h.cz
  rw [freed_fst] at hc
  funext k
  rw [Rs.cv_congr k _ (loc (pl n D)) c (loc ((frs n e D).map Prod.fst)) (fun _ _ => rfl) (fun i _ => hc i), Rs.loc_append, List.map_append, lst_fst]
theorem inv_one {X Y : GF} (h : X * Y.inv = 1) (hY : Y ≠ 0) : X = Y := by
  have : X * Y.inv * Y = Y := by rw [h, Rs.GF.one_mul]
  rw [Rs.GF.mul_assoc, Rs.GF.mul_comm Y.inv, Rs.GF.mul_inv hY, Rs.GF.mul_one] at this
  exact this
theorem fx_mends (n p : Nat) (S e : PS) (D : List Nat) (hN : n ≤ 255) (hn : D.Nodup) (hD : ∀ j, j ∈ D → j < n) (hS : ∀ i, i < p → S i = hv n e (al i)) (hp : D.length + 2 * cnt n (oth D e) ≤ p) (j : Nat) (hj : j < n) :
    fx n p S (loc ((lst n e D ++ frs n e D).map Prod.fst)) j = e j := by
  have hL : (lst n e D ++ frs n e D).length ≤ p := by rw [List.length_append, frs_length]; unfold lst; rw [List.length_map]; omega
  have hnd := all_nodup hN e D hn hD
  have hne := Rs.GF.al_ne (n - 1 - j)
  have hloc := Rs.ev_loc ((lst n e D ++ frs n e D).map Prod.fst) (p + 1) (al (n - 1 - j)).inv (by rw [List.length_map]; omega)
  have ld : ∀ k, (lst n e D ++ frs n e D).length + 1 ≤ k → loc ((lst n e D ++ frs n e D).map Prod.fst) k = 0 := fun k hk => Rs.loc_deg _ k (by rw [List.length_map]; exact hk)
  have hval : ev p (fun k => cv k S (loc ((lst n e D ++ frs n e D).map Prod.fst))) (al (n - 1 - j)).inv = ev (lst n e D ++ frs n e D).length (om (lst n e D ++ frs n e D)) (al (n - 1 - j)).inv := by
    rw [Rs.ev_congr p _ _ (om (lst n e D ++ frs n e D)) (fun k hk => by
      rw [Rs.cv_comm, ← Rs.cv_loc_ps]
      exact Rs.cv_congr k _ _ _ _ (fun _ _ => rfl) (fun i hi => by rw [hS i (by omega), Rs.ps_append, hv_lost n i e D hn hD]))]
    exact Rs.ev_more p _ _ _ (Rs.om_deg _) hL
  have hdv : ev p (dv (loc ((lst n e D ++ frs n e D).map Prod.fst))) (al (n - 1 - j)).inv = ev (lst n e D ++ frs n e D).length (dv (loc ((lst n e D ++ frs n e D).map Prod.fst))) (al (n - 1 - j)).inv :=
    Rs.ev_more p _ _ _ (Rs.dv_deg ld) hL
  show (if ev (p + 1) _ (al (n - 1 - j)).inv = 0 then (if ev p (dv _) (al (n - 1 - j)).inv = 0 then (0 : GF) else _) else 0) = _
  by_cases hm : j ∈ D ∨ e j ≠ 0
  · have hmem := mem_all (e := e) hj hm
    have hx : al (n - 1 - j) * (al (n - 1 - j)).inv = 1 := Rs.GF.mul_inv hne
    obtain ⟨f1, f2⟩ := Rs.forney (lst n e D ++ frs n e D) (al (n - 1 - j)) (e j) (al (n - 1 - j)).inv hnd hmem hx
    rw [if_pos (hloc.2 ⟨_, List.mem_map_of_mem (f := Prod.fst) hmem, hx⟩), hdv, if_neg f2, hval]
    rw [← Rs.GF.mul_assoc, f1, Rs.GF.mul_assoc, Rs.GF.mul_inv f2, Rs.GF.mul_one]
  · have h0 : e j = 0 := by
      by_cases h : e j = 0
      · exact h
      · exact absurd (.inr h) hm
    rw [if_neg (fun hz => ?_), h0]
    obtain ⟨X, hX, hXx⟩ := hloc.1 hz
    obtain rfl := inv_one hXx hne
    obtain ⟨Xe, hXe, hfst⟩ := List.mem_map.1 hX
    rcases List.mem_append.1 hXe with h1 | h1
    · have : al (n - 1 - j) ∈ pl n D := by rw [← lst_fst n e D, ← hfst]; exact List.mem_map_of_mem (f := Prod.fst) h1
      exact hm (.inl ((pl_mem hN hD hj).1 this))
    · obtain ⟨i, hi, _, hie, rfl⟩ := frs_mem h1
      have := Rs.GF.al_inj (by omega) (by omega) (show al (n - 1 - i) = al (n - 1 - j) from hfst)
      obtain rfl : i = j := by omega
      exact hm (.inr hie)
/-- a word near a codeword is mended -/
theorem outf_mends (n p : Nat) (w c : PS) (D : List Nat) (hN : n ≤ 255) (hn : D.Nodup) (hD : ∀ j, j ∈ D → j < n) (hc : ∀ i, i < p → hv n c (al i) = 0) (hp : D.length + 2 * cnt n (oth D (fun j => w j + c j)) ≤ p) (j : Nat) (hj : j < n) :
    outf n p w D j = c j := by
  have hS : ∀ i, i < p → sy n w i = hv n (fun j => w j + c j) (al i) := fun i hi => by
    rw [Rs.hv_add, hc i hi, Rs.GF.add_zero]; rfl
  unfold outf
  by_cases hz : zB p (sy n w) = true
  · rw [if_pos hz]
    by_cases h0 : w j + c j = 0
    · exact Rs.GF.add_eq_zero h0
    · have hL : (lst n (fun j => w j + c j) D ++ frs n (fun j => w j + c j) D).length ≤ p := by rw [List.length_append, frs_length]; unfold lst; rw [List.length_map]; omega
      exact absurd (Rs.vand _ (lst n (fun j => w j + c j) D ++ frs n (fun j => w j + c j) D) rfl (all_nodup hN _ D hn hD) (fun i hi => by
        rw [Rs.ps_append, ← hv_lost n i _ D hn hD, ← hS i (by omega)]
        exact (zB_iff _ _).1 hz i (by omega)) _ (mem_all (e := fun j => w j + c j) hj (.inr h0))) h0
  · rw [if_neg hz]
    show w j + fx n p (sy n w) _ j = c j
    rw [bm_loc n p (sy n w) (fun j => w j + c j) D hN hn hD hS hp, fx_mends n p (sy n w) (fun j => w j + c j) D hN hn hD hS hp j hj]
    rw [← Rs.GF.add_assoc, Rs.GF.add_self, Rs.GF.zero_add]
theorem decRes_mends (n p : Nat) (w c : PS) (D : List Nat) (hN : n ≤ 255) (hn : D.Nodup) (hD : ∀ j, j ∈ D → j < n) (hc : ∀ i, i < p → hv n c (al i) = 0) (hp : D.length + 2 * cnt n (oth D (fun j => w j + c j)) ≤ p) :
    decRes n p w D = (strOfNums (tb (n - p) c), ((cnt n (fun j => w j + c j) : Nat) : Int), 0) := by
  have ho := outf_mends n p w c D hN hn hD hc hp
  have e1 : cnt n (fun j => w j + outf n p w D j) = cnt n (fun j => w j + c j) := Rs.cnt_congr n _ _ (fun i hi => by show w i + outf n p w D i = 0 ↔ w i + c i = 0; rw [ho i hi])
  have e2 : cnt n (oth D (fun j => w j + outf n p w D j)) = cnt n (oth D (fun j => w j + c j)) := Rs.cnt_congr n _ _ (fun i hi => by
    show (if i ∈ D then (0 : GF) else w i + outf n p w D i) = 0 ↔ (if i ∈ D then (0 : GF) else w i + c i) = 0; rw [ho i hi])
  unfold decRes
  rw [e1, e2, if_neg (by omega), if_pos ((zB_iff _ _).2 fun i hi => by
    show hv n (outf n p w D) (al i) = 0
    rw [Rs.hv_congr n _ _ c ho]; exact hc i hi), tb_congr (n := n - p) (f := outf n p w D) (g := c) (fun j hj => ho j (by omega))]
theorem oth_dis2 (L : List Nat) (f : PS) : oth (dis L []) f = oth L f := by
  funext j
  unfold oth
  have : j ∈ dis L [] ↔ j ∈ L := by rw [dis_mem]; simp
  by_cases h : j ∈ L
  · rw [if_pos h, if_pos (this.2 h)]
  · rw [if_neg h, if_neg (fun e => h (this.1 e))]
theorem DecodeMends (n p : Nat) (w c : PS) (l : List Nat) (hn : n ≤ 255) (hp : p ≤ 64) (hpn : p < n) (hl : l.length ≤ 255) (h : ∀ i, i ∈ l → i < n) (hc : ∀ i, i < p → hv n c (al i) = 0) (hnear : (dis l []).length + 2 * cnt n (oth l (fun j => w j + c j)) ≤ p) :
    Ev (fun k => label_Decode.f k (strOfNums (tb n w)) (p : Int) (ql l)) (strOfNums (tb (n - p) c), ((cnt n (fun j => w j + c j) : Nat) : Int), 0) := by
  have e := DecodeG n p w l hn hp hpn hl h
  rw [if_neg (by omega), decRes_mends n p w c (dis l []) hn (dis_nodup l [] List.nodup_nil) (fun i hi => h i (((dis_mem l [] i).1 hi).resolve_left (by simp))) hc (by rw [oth_dis2]; exact hnear)] at e
  exact e
open Rs (PS GF hv wd cnt tl)
open Rs.GF (al)
/-! ### spoilt -/
theorem cnt_drop1 (n : Nat) : ∀ (f : PS) (i : Nat), i < n → f i ≠ 0 → cnt n f = cnt n (fun j => if j = i then 0 else f j) + 1 := by
  induction n with
  | zero => intro f i h; omega
  | succ n ih =>
    intro f i h hf
    cases i with
    | zero =>
      show (if f 0 = 0 then 0 else 1) + cnt n (tl f) = (if (if (0 : Nat) = 0 then (0 : GF) else f 0) = 0 then 0 else 1) + cnt n (tl fun j => if j = 0 then 0 else f j) + 1
      rw [if_neg hf, if_pos rfl, if_pos rfl, show (tl fun j => if j = 0 then (0 : GF) else f j) = tl f from funext fun j => by show (if j + 1 = 0 then (0 : GF) else f (j + 1)) = f (j + 1); rw [if_neg (by omega)]]
      omega
    | succ i =>
      show (if f 0 = 0 then 0 else 1) + cnt n (tl f) = (if (if (0 : Nat) = i + 1 then (0 : GF) else f 0) = 0 then 0 else 1) + cnt n (tl fun j => if j = i + 1 then 0 else f j) + 1
      rw [if_neg (show ¬ (0 : Nat) = i + 1 by omega), show (tl fun j => if j = i + 1 then (0 : GF) else f j) = fun j => if j = i then 0 else tl f j from funext fun j => by
        show (if j + 1 = i + 1 then (0 : GF) else f (j + 1)) = if j = i then 0 else f (j + 1)
        simp only [Nat.add_right_cancel_iff], ih (tl f) i (by omega) hf]
      omega
theorem cnt_mem (L : List Nat) : ∀ (n : Nat) (f : PS), L.Nodup → (∀ i, i ∈ L → i < n) → (∀ j, j < n → (f j ≠ 0 ↔ j ∈ L)) → cnt n f = L.length := by
  induction L with
  | nil =>
    intro n f _ _ h
    exact Rs.cnt_none n f (fun i hi => by
      by_cases e : f i = 0
      · exact e
      · exact absurd ((h i hi).1 e) (by simp))
  | cons i L ih =>
    intro n f hn hl h
    have hi := hl i (by simp)
    rw [cnt_drop1 n f i hi ((h i hi).2 (by simp)), List.length_cons, ih n _ (List.nodup_cons.1 hn).2 (fun j hj => hl j (by simp [hj])) (fun j hj => ?_)]
    by_cases e : j = i
    · subst e
      rw [if_pos rfl]
      exact ⟨fun h => absurd rfl h, fun h => absurd h (List.nodup_cons.1 hn).1⟩
    · rw [if_neg e, h j hj]; simp [e]
/-- w is c but for the places of L, of which there are at most M -/
structure Spoils (n : Nat) (c w : PS) (L : List Nat) (M : Nat) : Prop where
  nd : L.Nodup
  lt : ∀ i, i ∈ L → i < n
  le : L.length ≤ M
  ne : ∀ j, j < n → (w j + c j ≠ 0 ↔ j ∈ L)
theorem Spoils.none (n : Nat) (c : PS) (M : Nat) : Spoils n c c [] M where
  nd := List.nodup_nil
  lt := fun i h => by simp at h
  le := Nat.zero_le _
  ne := fun j _ => by rw [Rs.GF.add_self]; simp
theorem byte_of {x : Int} (h : 0 ≤ x ∧ x ≤ 255) : ∃ X : GF, x = ((X.v : Nat) : Int) := ⟨Rs.GF.mk x.toNat (by omega), by rw [Rs.GF.v_mk]; omega⟩
theorem spoG (n M : Nat) (c : PS) (hn : 0 < n) (hn' : n ≤ 100000) (P : Nat → Prop) (l : List S47) : ∀ (w : PS) (L : List Nat), (∀ x, x ∈ l → 0 ≤ x.f1 ∧ x.f1 ≤ 255) →
    (∀ x (i : Nat), x ∈ l → silversidelaw03_mod.f x.f0 (n : Int) = some (i : Int) → P i) → (∀ i, i ∈ L → P i) → Spoils n c w L M →
    ∃ w' L', spo l (tb n w) (ql L) (M : Int) = some (tb n w', ql L') ∧ Spoils n c w' L' M ∧ (∀ i, i ∈ L' → P i) := by
  induction l with
  | nil => intro w L _ _ hP hS; exact ⟨w, L, rfl, hS, hP⟩
  | cons x l ih =>
    intro w L hb hm hP hS
    have hb' : ∀ y, y ∈ l → 0 ≤ y.f1 ∧ y.f1 ≤ 255 := fun y hy => hb y (by simp [hy])
    have hm' : ∀ y (i : Nat), y ∈ l → silversidelaw03_mod.f y.f0 (n : Int) = some (i : Int) → P i := fun y i hy => hm y i (by simp [hy])
    unfold spo
    rw [ql_length, tb_length]
    by_cases hM : L.length < M
    · obtain ⟨r, hr, hrn⟩ := modG x.f0 n hn hn'
      rw [if_pos (by omega), hr]
      show ∃ w' L', (if x.f1 = 0 then spo l (tb n w) (ql L) (M : Int) else if (r : Int) ∈ ql L then spo l (tb n w) (ql L) (M : Int) else spo l ((tb n w).set (r : Int).toNat (Go.bits .xor .u8 (rd (tb n w) (r : Int)) x.f1)) (ql L ++ [(r : Int)]) (M : Int)) = some (tb n w', ql L') ∧ _
      by_cases h0 : x.f1 = 0
      · rw [if_pos h0]; exact ih w L hb' hm' hP hS
      · rw [if_neg h0]
        by_cases hin : r ∈ L
        · rw [if_pos ((ql_mem r L).2 hin)]; exact ih w L hb' hm' hP hS
        · rw [if_neg (fun e => hin ((ql_mem r L).1 e))]
          obtain ⟨X, hX⟩ := byte_of (hb x (by simp))
          have hX0 : X ≠ 0 := fun e => h0 (by rw [hX, e]; rfl)
          rw [tb_rd n w r hrn, hX, xor8G, Int.toNat_natCast, tb_set, ql_snoc]
          refine ih _ (L ++ [r]) hb' hm' (fun i hi => ?_) ⟨?_, ?_, ?_, ?_⟩
          · rcases List.mem_append.1 hi with h | h
            · exact hP i h
            · obtain rfl := List.mem_singleton.1 h
              exact hm x i (by simp) hr
          · refine List.nodup_append.2 ⟨hS.nd, by simp, ?_⟩
            intro a ha b hb e
            obtain rfl := List.mem_singleton.1 hb
            exact hin (e ▸ ha)
          · intro i hi
            rcases List.mem_append.1 hi with h | h
            · exact hS.lt i h
            · obtain rfl := List.mem_singleton.1 h
              exact hrn
          · rw [List.length_append]; simp; omega
          · intro j hj
            rw [List.mem_append, List.mem_singleton]
            by_cases e : j = r
            · subst e
              rw [if_pos rfl]
              have hw : w j = c j := by
                by_cases e : w j + c j = 0
                · exact Rs.GF.add_eq_zero e
                · exact absurd ((hS.ne j hj).1 e) hin
              rw [hw, Rs.GF.add_assoc, Rs.GF.add_comm X, ← Rs.GF.add_assoc, Rs.GF.add_self, Rs.GF.zero_add]
              exact ⟨fun _ => .inr rfl, fun _ => hX0⟩
            · rw [if_neg e, hS.ne j hj]
              exact ⟨.inl, fun h => h.resolve_right e⟩
    · rw [if_neg (by omega)]; exact ⟨w, L, rfl, hS, hP⟩
theorem spoiltG (n M : Nat) (c : PS) (hn : 0 < n) (hn' : n ≤ 100000) (hM : M ≤ 1000) (P : Nat → Prop) (l : List S47) (hb : ∀ x, x ∈ l → 0 ≤ x.f1 ∧ x.f1 ≤ 255)
    (hm : ∀ x (i : Nat), x ∈ l → silversidelaw03_mod.f x.f0 (n : Int) = some (i : Int) → P i) :
    ∃ w L, silversidelaw03_spoilt.f (strOfNums (tb n c)) l (M : Int) = some (strOfNums (tb n w), ql L) ∧ Spoils n c w L M ∧ (∀ i, i ∈ L → P i) := by
  obtain ⟨w, L, h, hS, hP⟩ := spoG n M c hn hn' P l c [] hb hm (fun i hi => by simp at hi) (Spoils.none n c M)
  refine ⟨w, L, ?_, hS, hP⟩
  unfold silversidelaw03_spoilt.f
  rw [str_size, if_pos ⟨hn, hn', by omega⟩, bytes_tb]
  have h' : spo l (tb n c) [] (M : Int) = some (tb n w, ql L) := h
  rw [h']; rfl
theorem wd_data (n q : Nat) (f : PS) : tb n (wd n q f) = tb n f := tb_congr fun j hj => by unfold wd; rw [if_pos hj]
theorem half_of (q : Nat) (h : q < 100000) : wrap64 (Int.tdiv (q : Int) 2) = ((q / 2 : Nat) : Int) := half_step h
end Go.Proofs.Ytdgjanjoiabgfaa.Pure
