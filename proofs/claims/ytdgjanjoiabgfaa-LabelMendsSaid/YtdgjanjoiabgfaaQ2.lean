-- written by a program of this session's (wip/hook.py: the kit's print, with functions proved by hand)
import Derived.Test.YtdgjanjoiabgfaaQ0
namespace Go.Proofs.Ytdgjanjoiabgfaa.Q
open Go.RowKit Go.Proofs.YtdgjanjoiabgfaaW.PrintWords Go.Proofs.YtdgjanjoiabgfaaW.PrintLast Go.Proofs.Ytdgjanjoiabgfaa.Hand Go.Proofs.YtdgjanjoiabgfaaW.PrintMore
attribute [local go_sem] max2_int min2_int max_two min_two max_three min_three max_four min_four   -- for this text's walks alone
set_option linter.unusedVariables false
set_option linter.unusedSimpArgs false

/-! ### label_isParameters: function 34 -/
def label_isParameters.f (a0 : Int) (a1 : Int) : Option (Bool) := if a1 ≥ 0 then (if a1 ≤ 64 then (if a0 ≥ (wrap64 (a1 + 1)) then (some (decide (a0 ≤ 255))) else (some false)) else (some false)) else (some false)
set_option maxHeartbeats 8000000 in
set_option maxRecDepth 100000 in
theorem label_isParameters.calls (a0 : Int) (a1 : Int) (r : Bool) (w : World) (h : label_isParameters.f a0 a1 = some r) :
    Calls Try.prog 34 #[.int .i64 a0, .int .i64 a1] w fun e w' => e = .returned (.bool r) ∧ Drawn0 w w' := by
  have H : (if a1 ≥ 0 then (if a1 ≤ 64 then (if a0 ≥ (wrap64 (a1 + 1)) then (some (decide (a0 ≤ 255))) else (some false)) else (some false)) else (some false)) = some r := h
  clear h
  by_cases c3 : a1 ≥ 0
  · rw [if_pos c3] at H
    have c3b0 : decide (0 ≤ a1) = true := decide_eq_true c3
    clear c3
    by_cases c4 : a1 ≤ 64
    · rw [if_pos c4] at H
      have c4b0 : decide (a1 ≤ 64) = true := decide_eq_true c4
      clear c4
      by_cases c5 : a0 ≥ (wrap64 (a1 + 1))
      · rw [if_pos c5] at H
        have c5b0 : decide ((wrap64 (a1 + 1)) ≤ a0) = true := decide_eq_true c5
        clear c5
        obtain rfl := Option.some.inj H
        go_enter Try.func34, Try.ntmps34
        go_wp2
        go_ret
        exact ⟨by first | rfl | (simp; done) | (simp [*]; done), by repeat (first | exact Drawn0.refl _ | apply Drawn0.step)⟩
      · rw [if_neg c5] at H
        have c5b0 : decide ((wrap64 (a1 + 1)) ≤ a0) = false := decide_eq_false c5
        clear c5
        obtain rfl := Option.some.inj H
        go_enter Try.func34, Try.ntmps34
        go_wp2
        go_ret
        exact ⟨by first | rfl | (simp; done) | (simp [*]; done), by repeat (first | exact Drawn0.refl _ | apply Drawn0.step)⟩
    · rw [if_neg c4] at H
      have c4b0 : decide (a1 ≤ 64) = false := decide_eq_false c4
      clear c4
      obtain rfl := Option.some.inj H
      go_enter Try.func34, Try.ntmps34
      go_wp2
      go_ret
      exact ⟨by first | rfl | (simp; done) | (simp [*]; done), by repeat (first | exact Drawn0.refl _ | apply Drawn0.step)⟩
  · rw [if_neg c3] at H
    have c3b0 : decide (0 ≤ a1) = false := decide_eq_false c3
    clear c3
    obtain rfl := Option.some.inj H
    go_enter Try.func34, Try.ntmps34
    go_wp2
    go_ret
    exact ⟨by first | rfl | (simp; done) | (simp [*]; done), by repeat (first | exact Drawn0.refl _ | apply Drawn0.step)⟩

/-! ### label_times: function 53, by hand -/

/-! ### label_exp: function 54, by hand -/

/-! ### label_generator: function 35 -/
def label_generator.l0 : Nat → List Int → Int → Int → Option (List Int)
  | 0, _, _, _ => none
  | k + 1, x3, x6, x7 => if x7 < x6 then ((label_exp.f x7).bind fun t104 => ((label_times.f x3 (([t104, 1] : List Int)) (wrap64 (x7 + 2))).bind fun t108 => (label_generator.l0 k t108 x6 (wrap64 (x7 + 1))))) else (some x3)
def label_generator.f (k : Nat) (a0 : Int) : Option (List Int) := label_generator.l0 k (([1] : List Int)) a0 0
theorem label_generator.mono_l : ∀ k, (∀ y0 y1 y2, LeO (label_generator.l0 k y0 y1 y2) (label_generator.l0 (k + 1) y0 y1 y2))
  | 0 => fun _ _ _ r h => by simp [label_generator.l0] at h
  | k + 1 => by
    have ih0 := label_generator.mono_l k
    · intro y0 y1 y2
      unfold label_generator.l0
      repeat' first
      | (with_reducible exact ih0 _ _ _)
      | (with_reducible exact LeO.refl _)
      | (with_reducible exact LeO.none _)
      | (with_reducible refine LeO.ite ?_ ?_)
      | (with_reducible refine LeO.bind ?_ (fun _ => ?_))
      | exact ih0 _ _ _
      | exact LeO.none _
      | refine LeO.ite ?_ ?_
      | refine LeO.bind ?_ (fun _ => ?_)
theorem label_generator.mono : ∀ a0 k, LeO (label_generator.f k a0) (label_generator.f (k + 1) a0) := by
  intro a0 k
  have ih0 := label_generator.mono_l k
  unfold label_generator.f
  repeat' first
      | (with_reducible exact ih0 _ _ _)
      | (with_reducible exact LeO.refl _)
      | (with_reducible exact LeO.none _)
      | (with_reducible refine LeO.ite ?_ ?_)
      | (with_reducible refine LeO.bind ?_ (fun _ => ?_))
      | exact ih0 _ _ _
      | exact LeO.none _
      | refine LeO.ite ?_ ?_
      | refine LeO.bind ?_ (fun _ => ?_)
set_option maxHeartbeats 8000000 in
set_option maxRecDepth 100000 in
theorem label_generator.calls (k : Nat) (a0 : Int) (r : List Int) (w : World) (h : label_generator.f k a0 = some r) :
    Calls Try.prog 35 #[.int .i64 a0] w fun e w' => ∃ v0_ : Value, e = .returned (v0_) ∧ Kd.R (Kd.int .u8) 5 w' w.heap.size (fun _ => True) v0_ r ∧ Below w.heap.size w w' := by
  have HB := Aside0.mk (Below.refl w.heap.size w)
  have H : (label_generator.l0 k (([1] : List Int)) a0 0) = some r := h
  clear h
  obtain ⟨y101, hy101⟩ : ∃ y_ : List Int, y_ = (([1] : List Int)) := ⟨_, rfl⟩
  replace H : (label_generator.l0 k y101 a0 0) = some r := by first | (rw [hy101]; with_reducible exact H) | (have H2_ := (Option.bind_some _ _).symm.trans H; rw [hy101]; with_reducible exact H2_) | (have H2_ := (Option.bind_some _ _).symm.trans H; with_reducible exact H2_) | with_reducible exact H | (rw [hy101]; exact H) | exact H
  have Ny101 := Aside0.mk hy101
  clear hy101
  have H' := Aside0.mk H
  clear H
  go_enter Try.func35, Try.ntmps35
  go_wp2_with (first | ((with_reducible refine gate_dst (N := 5) rfl ?_); refine Kd.R_lit (Kd.int .u8) _ 5 ?hg (N := 5) ?hd (xs := ([1] : List Int)) (inner := [.int .u8 1]) (ok := fun _ => True) (okp := fun _ => True) ?hr ?hp (fun _ hk => hk) trivial (Below.refl _ _) (Nat.le_refl _) (by simp) ?_; (case hd => rfl); (case hg => rfl); (case hr => first | (go_simp; done) | (go_simp; rfl)); (case hp => exact (Reps.one (show Kd.M (Kd.int .u8) _ _ _ 1 [.int .u8 1] from rfl) (Reps.none _ _))); intro v102 w2 ho3 hb hg_ hnew_; clear hg_ hnew_; (first | rw [← Ny101.out] at ho3 | (simp only [Int.reduceToNat] at ho3; rw [← Ny101.out] at ho3)); have n0_ := Aside0.mk (Kd.R_lower ho3 (below_size (by repeat (first | (with_reducible first | exact HB.out | apply below_alloc | apply pw_below_drewN | apply below_drew1) | exact HB.out)))); have n1_ := Aside0.mk (below_step (by repeat (first | (with_reducible first | exact HB.out | apply below_alloc | apply pw_below_drewN | apply below_drew1) | exact HB.out)) hb); clear HB; have HO103 := n0_; have HB := n1_; clear n0_ n1_; clear hb ho3))
  go_loopg [3, 7] k (fun kq v3 v7 w' => ∃ (x3_1 : List Int) (x7_1 : Int), v7 = .int .i64 x7_1 ∧ Aside0 (label_generator.l0 kq x3_1 a0 x7_1 = some r) ∧ Aside0 (kq ≤ k) ∧ Aside0 (Kd.R (Kd.int .u8) 5 w' w.heap.size (fun _ => True) v3 x3_1) ∧ Aside0 (Below w.heap.size w w'))
  case atStart => exact ⟨(y101), (0), (by first | rfl | (simp; done) | (simp [*]; done)), H', ⟨Nat.le_refl _⟩, ⟨by (with_reducible repeat (first | apply Kd.R_alloc | apply Kd.R_drewN | apply Kd.R_drew)); exact HO103.out⟩, ⟨by repeat (first | (with_reducible first | exact HB.out | apply below_alloc | apply pw_below_drewN | apply below_drew1) | exact HB.out)⟩⟩
  case round =>
    clear H'
    try clear p2
    try clear c3
    obtain ⟨x3_1, x7_1, rfl, HA, HK1, HO_3, HB⟩ := hrel
    cases gk with
    | zero => exact absurd HA.out (by simp [label_generator.l0])
    | succ k1 =>
      have H := HA.out
      clear HA
      simp only [label_generator.l0] at H
      by_cases c4 : x7_1 < a0
      · rw [if_pos c4] at H
        have c4b0 : decide (x7_1 < a0) = true := decide_eq_true c4
        clear c4
        replace H := Option.bind_eq_some_iff.mp H
        obtain ⟨t104, A50, H⟩ := H
        replace H : ((label_times.f x3_1 (([t104, 1] : List Int)) (wrap64 (x7_1 + 2))).bind fun t108 => (label_generator.l0 k1 t108 a0 (wrap64 (x7_1 + 1)))) = some r := H
        have A5 := Aside0.mk A50; (try simp only [Int.toNat_natCast] at A5)
        clear A50
        obtain ⟨y105, hy105⟩ : ∃ y_ : List Int, y_ = (([t104, 1] : List Int)) := ⟨_, rfl⟩
        replace H : ((label_times.f x3_1 y105 (wrap64 (x7_1 + 2))).bind fun t108 => (label_generator.l0 k1 t108 a0 (wrap64 (x7_1 + 1)))) = some r := by first | (rw [hy105]; with_reducible exact H) | (have H2_ := (Option.bind_some _ _).symm.trans H; rw [hy105]; with_reducible exact H2_) | (have H2_ := (Option.bind_some _ _).symm.trans H; with_reducible exact H2_) | with_reducible exact H | (rw [hy105]; exact H) | exact H
        have Ny105 := Aside0.mk hy105
        clear hy105
        replace H := Option.bind_eq_some_iff.mp H
        obtain ⟨t108, A60, H⟩ := H
        replace H : (label_generator.l0 k1 t108 a0 (wrap64 (x7_1 + 1))) = some r := H
        have A6 := Aside0.mk A60; (try simp only [Int.toNat_natCast] at A6)
        clear A60
        have H' := Aside0.mk H
        clear H
        go_wp2_with (first | ((with_reducible refine gate_callee (f := 54) rfl ?_); refine goesL_ (some 12) rfl rfl Try.func54 (by kernel_rfl) rfl #[.int .i64 x7_1] rfl (by (try simp only [List.map_toArray, List.map_cons, List.map_nil]); first | done | rfl | (simp only [List.length_drop, List.length_take]; rfl)) ?_; (with_reducible refine (label_exp.calls x7_1 t104 _ A5.out).mono ?_); rintro e w7 ⟨rfl, hb⟩; refine ⟨_, rfl, ?_⟩; have n0_ := Aside0.mk (Kd.R_below (by (with_reducible repeat (first | apply Kd.R_alloc | apply Kd.R_drewN | apply Kd.R_drew)); exact HO_3.out) hb); have n1_ := Aside0.mk (below_step (by repeat (first | (with_reducible first | exact HB.out | apply below_alloc | apply pw_below_drewN | apply below_drew1) | exact HB.out)) hb); clear HO_3; clear HB; have HO_3 := n0_; have HB := n1_; clear n0_ n1_; (try clear hb); (try clear hb2); (try clear hk); (try clear hi)) | ((with_reducible refine gate_dst (N := 13) rfl ?_); refine Kd.R_lit (Kd.int .u8) _ 5 ?hg (N := 13) ?hd (xs := ([t104, 1] : List Int)) (inner := [.int .u8 t104, .int .u8 1]) (ok := fun _ => True) (okp := fun _ => True) ?hr ?hp (fun _ hk => hk) trivial (Below.refl _ _) (Nat.le_refl _) (by simp) ?_; (case hd => rfl); (case hg => rfl); (case hr => first | (go_simp; done) | (go_simp; rfl)); (case hp => exact (Reps.one (show Kd.M (Kd.int .u8) _ _ _ t104 [.int .u8 t104] from rfl) (Reps.one (show Kd.M (Kd.int .u8) _ _ _ 1 [.int .u8 1] from rfl) (Reps.none _ _)))); intro v106 w8 ho9 hb hg_ hnew_; clear hg_ hnew_; (first | rw [← Ny105.out] at ho9 | (simp only [Int.reduceToNat] at ho9; rw [← Ny105.out] at ho9)); have n0_ := Aside0.mk (Kd.R_elder' (by (with_reducible repeat (first | apply Kd.R_alloc | apply Kd.R_drewN | apply Kd.R_drew)); exact HO_3.out) (Kd.R_base ho9) hb); have n1_ := Aside0.mk (Kd.R_lower (Kd.R_new' ho9 (Kd.R_lt (by (with_reducible repeat (first | apply Kd.R_alloc | apply Kd.R_drewN | apply Kd.R_drew)); exact HO_3.out))) (below_size (by repeat (first | (with_reducible first | exact HB.out | apply below_alloc | apply pw_below_drewN | apply below_drew1) | exact HB.out)))); have n2_ := Aside0.mk (below_step (by repeat (first | (with_reducible first | exact HB.out | apply below_alloc | apply pw_below_drewN | apply below_drew1) | exact HB.out)) hb); clear HO_3; clear HB; have HO_3 := n0_; have HO107 := n1_; have HB := n2_; clear n0_ n1_ n2_; clear hb ho9; obtain ⟨Ao10, co10, eo10⟩ := Kd.R_slice HO_3.out; subst eo10; obtain ⟨Ao11, co11, eo11⟩ := Kd.R_slice HO107.out; subst eo11) | ((with_reducible refine gate_callee (f := 53) rfl ?_); refine goesL_ (some 16) rfl rfl Try.func53 (by kernel_rfl) rfl #[.slice Ao10 x3_1.length co10, .slice Ao11 y105.length co11, .int .i64 (wrap64 (x7_1 + 2))] rfl (by (try simp only [List.map_toArray, List.map_cons, List.map_nil]); first | done | rfl | (simp only [List.length_drop, List.length_take]; rfl)) ?_; (with_reducible refine (label_times.calls _ _ x3_1 _ _ y105 (wrap64 (x7_1 + 2)) t108 _ ?side1 ?side2 ?side3 ?side4 A6.out).mono ?_); (case side1 => repeat (first | exact (Kd.R_reads' HO_3.out).2.2 | (with_reducible refine Kd.C_alloc ?_ _) | (with_reducible refine Kd.C_drewN ?_ _) | (with_reducible refine Kd.C_drew ?_))); (case side2 => exact (Kd.R_reads' HO_3.out).2.1); (case side3 => repeat (first | exact (Kd.R_reads' HO107.out).2.2 | (with_reducible refine Kd.C_alloc ?_ _) | (with_reducible refine Kd.C_drewN ?_ _) | (with_reducible refine Kd.C_drew ?_))); (case side4 => exact (Kd.R_reads' HO107.out).2.1); rintro e w12 ⟨v109, rfl, ho0, hb⟩; refine ⟨_, rfl, ?_⟩; have n0_ := Aside0.mk (Kd.R_elder' (by (with_reducible repeat (first | apply Kd.R_alloc | apply Kd.R_drewN | apply Kd.R_drew)); exact HO_3.out) (Kd.R_base ho0) hb); have n1_ := Aside0.mk (Kd.R_elder' (by (with_reducible repeat (first | apply Kd.R_alloc | apply Kd.R_drewN | apply Kd.R_drew)); exact HO107.out) (Kd.R_base ho0) hb); have n2_ := Aside0.mk (Kd.R_lower (Kd.R_new' (Kd.R_new' ho0 (Kd.R_lt (by (with_reducible repeat (first | apply Kd.R_alloc | apply Kd.R_drewN | apply Kd.R_drew)); exact HO_3.out))) (Kd.R_lt (by (with_reducible repeat (first | apply Kd.R_alloc | apply Kd.R_drewN | apply Kd.R_drew)); exact HO107.out))) (below_size (by repeat (first | (with_reducible first | exact HB.out | apply below_alloc | apply pw_below_drewN | apply below_drew1) | exact HB.out)))); have n3_ := Aside0.mk (below_step (by repeat (first | (with_reducible first | exact HB.out | apply below_alloc | apply pw_below_drewN | apply below_drew1) | exact HB.out)) hb); clear HO_3; clear HO107; clear HB; have HO_3 := n0_; have HO107 := n1_; have HO110 := n2_; have HB := n3_; clear n0_ n1_ n2_ n3_; (try clear hb); (try clear hb2); (try clear hk); (try clear hi); (try clear ho0)))
        go_roundg k1
        case measure => have := HK1.out; omega
        case rel => exact ⟨(t108), (wrap64 (x7_1 + 1)), (by first | rfl | (simp; done) | (simp [*]; done)), H', ⟨by have := HK1.out; omega⟩, ⟨by (with_reducible repeat (first | apply Kd.R_alloc | apply Kd.R_drewN | apply Kd.R_drew)); exact Kd.R_mono HO110.out (fun _ hk => trivial)⟩, ⟨by repeat (first | (with_reducible first | exact HB.out | apply below_alloc | apply pw_below_drewN | apply below_drew1) | exact HB.out)⟩⟩
      · rw [if_neg c4] at H
        have c4b0 : decide (x7_1 < a0) = false := decide_eq_false c4
        clear c4
        obtain rfl := Option.some.inj H
        go_wp2
        go_ret
        exact ⟨_, by first | rfl | (simp [errW_none, errW_some] <;> rfl) | (simp [*, errW_none, errW_some] <;> rfl), by (with_reducible repeat (first | apply Kd.R_alloc | apply Kd.R_drewN | apply Kd.R_drew)); exact HO_3.out, by repeat (first | (with_reducible first | exact HB.out | apply below_alloc | apply pw_below_drewN | apply below_drew1) | exact HB.out)⟩

/-! ### label_mul: function 36, by hand -/

/-! ### label_Encode: function 14, by hand -/
/-- one row of the long division -/
def encK (g : List Int) (p i : Nat) (lead : Int) : Nat → Nat → List Int → List Int
  | 0, _, rest => rest
  | m + 1, k, rest => encK g p i lead m (k + 1) (rest.set (i + 1 + k) (Go.bits .xor .u8 (rd rest (i + 1 + k : Nat)) (Rs.mulN lead.toNat (rd g (p - 1 - k : Nat)).toNat : Nat)))
/-- the long division -/
def encI (g : List Int) (p : Nat) : Nat → Nat → List Int → List Int
  | 0, _, rest => rest
  | m + 1, i, rest => encI g p m (i + 1) (encK g p i (rd rest i) p 0 rest)
def label_Encode.f (k : Nat) (a0 : ByteArray) (a1 : Int) : Option (ByteArray × Int) :=
  if a1 < 0 then some (⟨#[]⟩, 2) else if a1 > 64 then some (⟨#[]⟩, 2) else
  (label_isParameters.f (wrap64 ((a0.size : Int) + a1)) a1).bind fun t => if t = true then
    ((label_generator.f k a1).bind fun g => if bytesB g = true ∧ (g.length : Int) = a1 + 1 ∧ a0.size ≤ 100000 ∧ 0 < a0.size then
      some (a0 ++ strOfNums ((encI g a1.toNat a0.size 0 (bytesOf a0 ++ List.replicate a1.toNat 0)).drop a0.size), 0) else none)
    else some (⟨#[]⟩, 2)
theorem label_Encode.mono : ∀ a0 a1 k, LeO (label_Encode.f k a0 a1) (label_Encode.f (k + 1) a0 a1) := by
  intro a0 a1 k
  unfold label_Encode.f
  repeat' first
      | (with_reducible exact label_generator.mono _ _)
      | (with_reducible exact LeO.refl _)
      | (with_reducible refine LeO.ite ?_ ?_)
      | (with_reducible refine LeO.bind ?_ (fun _ => ?_))
theorem encK_length (g : List Int) (p i : Nat) (lead : Int) (m : Nat) : ∀ (k : Nat) (rest : List Int), (encK g p i lead m k rest).length = rest.length := by
  induction m with
  | zero => intro k rest; rfl
  | succ m ih => intro k rest; show (encK g p i lead m _ _).length = _; rw [ih, List.length_set]
theorem encK_bytes (g : List Int) (p i : Nat) (lead : Int) (m : Nat) : ∀ (k : Nat) (rest : List Int), i + 1 + k + m ≤ rest.length → bytesB rest = true → bytesB (encK g p i lead m k rest) = true := by
  induction m with
  | zero => intro k rest _ h; exact h
  | succ m ih => intro k rest hl h; exact ih (k + 1) _ (by rw [List.length_set]; omega) (bytesB_set h _ (xor_in8 (bytesB_rd h _ (by omega)) mulN_in))
set_option maxHeartbeats 1000000 in
set_option maxRecDepth 100000 in
theorem enc_bad (a0 : ByteArray) (a1 : Int) (w : World) (h : a1 < 0 ∨ a1 > 64) :
    Calls Try.prog 14 #[.string a0, .int .i64 a1] w fun e w' => e = .returned (.tuple #[.string ⟨#[]⟩, .int .i64 2]) ∧ Below w.heap.size w w' := by
  by_cases h0 : a1 < 0
  · have d0 : decide (a1 < 0) = true := decide_eq_true h0
    clear h h0
    go_enter Try.func14, Try.ntmps14
    go_wp2
    go_ret2
    exact ⟨rfl, Below.refl _ _⟩
  · have d0 : decide (a1 < 0) = false := decide_eq_false h0
    have d1 : decide (64 < a1) = true := decide_eq_true (by omega)
    clear h h0
    go_enter Try.func14, Try.ntmps14
    go_wp2
    go_ret2
    exact ⟨rfl, Below.refl _ _⟩
set_option maxHeartbeats 1000000 in
set_option maxRecDepth 100000 in
theorem enc_no (a0 : ByteArray) (a1 : Int) (w : World) (h0 : 0 ≤ a1) (h1 : a1 ≤ 64) (hp : label_isParameters.f (wrap64 ((a0.size : Int) + a1)) a1 = some false) :
    Calls Try.prog 14 #[.string a0, .int .i64 a1] w fun e w' => e = .returned (.tuple #[.string ⟨#[]⟩, .int .i64 2]) ∧ Below w.heap.size w w' := by
  have d0 : decide (a1 < 0) = false := decide_eq_false (by omega)
  have d1 : decide (64 < a1) = false := decide_eq_false (by omega)
  obtain ⟨s, hs⟩ : ∃ s, wrap64 ((a0.size : Int) + a1) = s := ⟨_, rfl⟩
  have hs' : IntKind.i64.wrap ((a0.size : Int) + a1) = s := (i64_w _).trans hs
  rw [hs] at hp
  have HP := hid hp
  clear hp h0 h1
  go_enter Try.func14, Try.ntmps14
  go_wp2_with (go_at_call 34; refine (label_isParameters.calls _ _ false _ HP.out).mono ?_; rintro e w1 ⟨rfl, ⟨nd, rfl⟩⟩)
  go_ret2
  exact ⟨rfl, pw_below_drewN (Below.refl _ _) _⟩
/-- the generator's cells, read -/
def Gc (g2 : Nat) (gl : List Int) (w : World) : Prop := g2 < w.heap.size ∧ ∀ j, j < gl.length → w.cell? ⟨g2, j, none⟩ = some (.int .u8 (rd gl j))
theorem Gc.below {g2 : Nat} {gl : List Int} {w w1 : World} (h : Gc g2 gl w) (hb : Below w.heap.size w w1) : Gc g2 gl w1 := ⟨Nat.lt_of_lt_of_le h.1 hb.size, fun j hj => (hb.cell (p := ⟨g2, j, none⟩) h.1).trans (h.2 j hj)⟩
theorem Gc.far {g2 : Nat} {gl : List Int} {w : World} (h : Gc g2 gl w) {p : Addr} (hp : g2 ≠ p.block) (u : Value) : Gc g2 gl (w.setCell p u) :=
  ⟨by simpa using h.1, fun j hj => (World.cell?_setCell_other _ _ _ _ (fun e => hp (by rw [e]))).trans (h.2 j hj)⟩
set_option maxHeartbeats 8000000 in
set_option maxRecDepth 100000 in
theorem enc_walk (k0 : Nat) (a0 : ByteArray) (p : Nat) (gl : List Int) (w : World) (h1 : (p : Int) ≤ 64) (hp : label_isParameters.f (wrap64 ((a0.size : Int) + p)) p = some true) (hg : label_generator.f k0 p = some gl)
    (hgb : bytesB gl = true) (hgl : gl.length = p + 1) (hs0 : (a0.size : Int) ≤ 100000) (hs1 : 0 < (a0.size : Int)) :
    Calls Try.prog 14 #[.string a0, .int .i64 p] w fun e w' => e = .returned (.tuple #[.string (a0 ++ strOfNums ((encI gl p a0.size 0 (bytesOf a0 ++ List.replicate p 0)).drop a0.size)), .int .i64 0]) ∧ Below w.heap.size w w' := by
  have h0 : (0 : Int) ≤ (p : Int) := by omega
  have d0 : decide ((p : Int) < 0) = false := decide_eq_false (by omega)
  have d1 : decide (64 < (p : Int)) = false := decide_eq_false (by omega)
  have s1 : IntKind.i64.wrap ((a0.size : Int) + (p : Int)) = (a0.size : Int) + (p : Int) := IntWalk.i64_in _ (by omega)
  rw [w64_in _ (by omega) (by omega)] at hp
  have HP := hid hp
  have HG := hid hg
  have HGB := hid hgb
  have HGL := hid hgl
  clear hp hg hgb hgl
  go_enter Try.func14, Try.ntmps14
  go_wp2_with (first
    | (go_at_call 34; refine (label_isParameters.calls _ _ true _ HP.out).mono ?_; rintro e w1 ⟨rfl, ⟨nd, rfl⟩⟩)
    | (go_at_call 35; refine (label_generator.calls k0 _ gl _ HG.out).mono ?_; rintro e w1 ⟨vg, rfl, ho, hb⟩; have HOG := Aside0.mk ho; have HBG := Aside0.mk hb; clear ho hb)
    | ((with_reducible refine gate_dst (N := 32) rfl ?_); refine Kd.R_make (Kd.int .u8) _ 5 rfl (N := 32) rfl 58 _ _ rfl ((a0.size : Int) + (p : Int)) rfl rfl Try.underlying58 (.int .u8 0) 1 Try.infoU8 rfl (by decide) (by omega) 0 (ok := fun _ => True) (okp := fun _ => True) rfl (fun _ hk => hk) trivial (by omega) (by omega) (Below.refl _ _) (Nat.le_refl _) ?_; intro v1 w2 ho hb hg_ hnew_; clear hg_ hnew_; have HO1 := Aside0.mk ho; have HB1 := Aside0.mk hb; clear ho hb)
    | ((with_reducible refine gate_builtin (b := .copy) (xs := #[.tmp 33, .tmp 34]) rfl ?_); refine R_copy_str _ rfl (.tmp 33) (.tmp 34) 58 9 5 rfl Try.underlying58 (info_size Try.infoU8) v1 _ a0 (fun _ => True) rfl rfl HO1.out (by rw [List.length_replicate]; omega) HB1.out HB1.out.size ?_; intro w3 ho hb; have HO2 := Aside0.mk ho; have HB2 := Aside0.mk hb; clear ho hb))
  clear HP HG HO1
  have HL : Aside0 ((bytesOf a0 ++ (List.replicate ((a0.size : Int) + (p : Int)).toNat 0).drop a0.size) = bytesOf a0 ++ List.replicate p 0) := ⟨by rw [List.drop_replicate]; congr 2; omega⟩
  obtain ⟨n, hn⟩ : ∃ n : Nat, n = a0.size := ⟨_, rfl⟩
  have hbl : (bytesOf a0).length = n := by rw [bytesOf_length, hn]
  have hE1 : encI gl p n 0 (bytesOf a0 ++ List.replicate p 0) = encI gl p a0.size 0 (bytesOf a0 ++ List.replicate p 0) := by rw [hn]
  have hbb : bytesB (bytesOf a0 ++ List.replicate p 0) = true := bytesB_append (bytesB_bytesOf a0) (bytesB_zeros p)
  obtain ⟨R0, hR0⟩ : ∃ R0, R0 = bytesOf a0 ++ List.replicate p 0 := ⟨_, rfl⟩
  have hRl : R0.length = n + p := by rw [hR0, List.length_append, List.length_replicate, hbl]
  rw [HL.out, ← hR0] at HO2
  rw [← hR0] at hE1 hbb
  obtain ⟨fin, hfin⟩ : ∃ fin, fin = encI gl p a0.size 0 R0 := ⟨_, rfl⟩
  have HFIN := hid hfin
  have HE1 := hid (hE1.trans hfin.symm)
  have HBB := hid hbb
  have HR0 := hid hR0
  have HRL := hid hRl
  have HN := hid hn
  have hn1 : 0 < n := by omega
  have hn2 : (n : Int) ≤ 100000 := by omega
  have HSZ := hid (show (a0.size : Int) = n from by omega)
  clear hbl hE1 hbb hR0 hRl hfin HL hn
  obtain ⟨g1, c1, e1, hg1, hg1', _, _⟩ := Kd.R_form HO2.out (by rw [HRL.out]; omega)
  obtain ⟨g2, c2, e2, hg2, hg2', _, _⟩ := Kd.R_form HOG.out (by rw [HGL.out]; omega)
  cases e1
  cases e2
  have hgc1 : Gc g2 gl w1 := ⟨hg2', fun j hj => by have := (Kd.R_celln (0 : Int) HOG.out (j : Int) (by omega) (by omega)).1; rwa [Int.toNat_natCast] at this⟩
  have hgc : Gc g2 gl w3 := ⟨Nat.lt_of_lt_of_le hg2' HB2.out.size, fun j hj => (HB2.out.cell (p := ⟨g2, j, none⟩) hg2').trans (hgc1.2 j hj)⟩
  have HGC := Aside0.mk hgc
  have gne : g2 ≠ g1 := by omega
  have hbw : Below w.heap.size w w3 := ((pw_below_drewN (Below.refl _ _) nd).trans (HBG.out.mono (by simp [World.drewN]))).trans (HB2.out.mono (Nat.le_trans (by simp [World.drewN]) HBG.out.size))
  have hw1 : w.heap.size ≤ w1.heap.size := Nat.le_trans (by simp [World.drewN]) HBG.out.size
  have HBW := Aside0.mk hbw
  clear hgc1 hgc HOG HBG HB1 HB2 hbw
  rw [HRL.out, HGL.out, HSZ.out]
  go_loopg [38] n (fun kq v38 w' => ∃ (i : Nat) (l : List Int), v38 = .int .i64 i ∧ i + kq = n ∧ Aside0 (encI gl p (n - i) i l = fin) ∧ Aside0 (l.length = n + p) ∧ Aside0 (bytesB l = true) ∧ Aside0 (Kd.R (Kd.int .u8) 5 w' w.heap.size (fun _ => True) (.slice (some ⟨g1, 0, none⟩) (n + p) c1) l) ∧ Aside0 (Gc g2 gl w') ∧ Aside0 (Below w.heap.size w w'))
  case atStart => exact ⟨0, R0, rfl, by omega, ⟨HE1.out⟩, ⟨HRL.out⟩, ⟨HBB.out⟩, ⟨Kd.R_lower (by have := HO2.out; rwa [HRL.out] at this) hw1⟩, HGC, HBW⟩
  case round =>
    clear HO2 HGC HBW hg2'
    obtain ⟨i, l, rfl, hi, HT, HL, HLB, HO, HGC, HB⟩ := hrel
    by_cases hlt : i < n
    · have d2 : decide ((i : Int) < (n : Int)) = true := decide_eq_true (by omega)
      obtain ⟨hc9, _⟩ := Kd.R_celln 0 HO.out (i : Int) (by omega) (by omega)
      rw [Int.toNat_natCast] at hc9
      obtain ⟨ld, hld⟩ : ∃ ld, ld = rdOf 0 l (i : Int) := ⟨_, rfl⟩
      rw [← hld] at hc9
      have HLD0 := hid hld
      have HLD := hid (show in8 ld = true by rw [hld]; exact bytesB_rd HLB.out i (by rw [HL.out]; omega))
      clear hld
      have i1 : (i : Int) < (n : Int) + (p : Int) := by omega
      have i0 : (0 : Int) ≤ (i : Int) := by omega
      go_wp2
      clear hc9
      go_loopg [46] p (fun kq v46 w' => ∃ (k : Nat) (l : List Int), v46 = .int .i64 k ∧ k + kq = p ∧ Aside0 (encI gl p (n - (i + 1)) (i + 1) (encK gl p i ld (p - k) k l) = fin) ∧ Aside0 (l.length = n + p) ∧ Aside0 (bytesB l = true) ∧ Aside0 (Kd.R (Kd.int .u8) 5 w' w.heap.size (fun _ => True) (.slice (some ⟨g1, 0, none⟩) (n + p) c1) l) ∧ Aside0 (Gc g2 gl w') ∧ Aside0 (Below w.heap.size w w'))
      case atStart => exact ⟨0, l, rfl, by omega, ⟨by have h := HT.out; rw [show n - i = (n - (i + 1)) + 1 from by omega] at h; rw [HLD0.out]; exact h⟩, HL, HLB, HO, HGC, HB⟩
      case round =>
        clear HT HL HLB HO HGC HB
        obtain ⟨k, l, rfl, hk, HT, HL, HLB, HO, HGC, HB⟩ := hrel
        by_cases hkt : k < p
        · have d3 : decide ((k : Int) < (p : Int)) = true := decide_eq_true (by omega)
          obtain ⟨hz0, hf0⟩ := Kd.R_celln 0 HO.out ((i + 1 + k : Nat) : Int) (by omega) (by omega)
          rw [Int.toNat_natCast] at hz0 hf0
          obtain ⟨q, hq⟩ : ∃ q : Nat, q = p - 1 - k := ⟨_, rfl⟩
          have hqg := HGC.out.2 q (by rw [HGL.out]; omega)
          have X1 := Aside0.mk (show World.cell? wr.drew _ = _ from hz0)
          have X2 := Aside0.mk (show World.cell? wr.drew _ = _ from hqg)
          have X3 := Aside0.mk (show World.frozen? wr.drew _ = _ from hf0)
          clear hz0 hf0 hqg
          have e0 : (0 : Int) ≤ (i : Int) + 1 + (k : Int) := by omega
          have e1 : (i : Int) + 1 + (k : Int) < (n : Int) + (p : Int) := by omega
          have e2 : ((i : Int) + 1 + (k : Int)).toNat = i + 1 + k := by omega
          have e3 : (0 : Int) ≤ (p : Int) - 1 - (k : Int) := by omega
          have e4 : (p : Int) - 1 - (k : Int) < (p : Int) + 1 := by omega
          have e5 : ((p : Int) - 1 - (k : Int)).toNat = q := by omega
          have hqp : q + 1 ≤ p := by omega
          have e6 : (k : Int) ≤ (p : Int) - 1 := by omega
          have HQ := hid hq
          have HGN : Hid (q < gl.length) := by show _ < _; rw [HGL.out]; omega
          clear hq
          go_wp2
          obtain ⟨y1, y2, y3, y4⟩ : wrap64 ((i : Int) + 1) = (i : Int) + 1 ∧ wrap64 ((i : Int) + 1 + (k : Int)) = (i : Int) + 1 + (k : Int) ∧ wrap64 ((p : Int) - 1) = (p : Int) - 1 ∧ wrap64 ((p : Int) - 1 - (k : Int)) = (p : Int) - 1 - (k : Int) := ⟨w64_in _ (by omega) (by omega), w64_in _ (by omega) (by omega), w64_in _ (by omega) (by omega), w64_in _ (by omega) (by omega)⟩
          refine start_ (n := 19) (S := fun w' => w'.cell? ⟨g1, i + 1 + k, none⟩ = some (.int .u8 (rdOf 0 l ((i + 1 + k : Nat) : Int))) ∧ w'.cell? ⟨g2, q, none⟩ = some (.int .u8 (rd gl q))) (ds := [18]) #[false, false, false, false, false, false, false, false, false, false, false, false, false, false, false, false, false, false, false] (by kernel_rfl) rfl rfl ⟨X1.out, X2.out⟩ (fun hHeld => ?_)
          refine pure_ (i := 0) (N := some 49) (v := ?_) (a' := ?_) #[true, false, false, false, false, false, false, false, false, false, false, false, false, false, false, false, false, false, false] rfl rfl (by kernel_rfl) (fun _ _ _ h => h) (Or.inl ⟨by rfl, ?_⟩) ?_ ?_
          rotate_left
          · intro w'
            go_simp
            with_reducible rfl
          rotate_left
          · simp only [Act.put, List.setIfInBounds_toArray, List.set_cons_zero, List.set_cons_succ, i64_w, i32_w]
            rfl
          refine pure_ (i := 1) (N := some 50) (v := ?_) (a' := ?_) #[true, true, false, false, false, false, false, false, false, false, false, false, false, false, false, false, false, false, false] rfl rfl (by kernel_rfl) (fun _ _ _ h => h) (Or.inl ⟨by rfl, ?_⟩) ?_ ?_
          rotate_left
          · intro w'
            go_simp
            with_reducible rfl
          rotate_left
          · simp only [Act.put, List.setIfInBounds_toArray, List.set_cons_zero, List.set_cons_succ, i64_w, i32_w]
            rfl
          refine pure_ (i := 2) (N := some 51) (v := ?_) (a' := ?_) #[true, true, true, false, false, false, false, false, false, false, false, false, false, false, false, false, false, false, false] rfl rfl (by kernel_rfl) (fun _ _ _ h => h) (Or.inl ⟨by rfl, ?_⟩) ?_ ?_
          rotate_left
          · intro w'
            go_simp
            with_reducible rfl
          rotate_left
          · simp only [Act.put, List.setIfInBounds_toArray, List.set_cons_zero, List.set_cons_succ, i64_w, i32_w]
            rfl
          refine pure_ (i := 3) (N := some 52) (v := ?_) (a' := ?_) #[true, true, true, true, false, false, false, false, false, false, false, false, false, false, false, false, false, false, false] rfl rfl (by kernel_rfl) (fun _ _ _ h => h) (Or.inl ⟨by rfl, ?_⟩) ?_ ?_
          rotate_left
          · intro w'
            go_simp
            with_reducible rfl
          rotate_left
          · simp only [Act.put, List.setIfInBounds_toArray, List.set_cons_zero, List.set_cons_succ, i64_w, i32_w]
            rfl
          refine pure_ (i := 4) (N := some 53) (v := ?_) (a' := ?_) #[true, true, true, true, true, false, false, false, false, false, false, false, false, false, false, false, false, false, false] rfl rfl (by kernel_rfl) (fun _ _ _ h => h) (Or.inl ⟨by rfl, ?_⟩) ?_ ?_
          rotate_left
          · intro w'
            go_simp
            with_reducible rfl
          rotate_left
          · simp only [Act.put, List.setIfInBounds_toArray, List.set_cons_zero, List.set_cons_succ, i64_w, i32_w]
            rfl
          refine pure_ (i := 5) (N := some 54) (v := ?_) (a' := ?_) #[true, true, true, true, true, true, false, false, false, false, false, false, false, false, false, false, false, false, false] rfl rfl (by kernel_rfl) (fun _ _ _ h => h) (Or.inl ⟨by rfl, ?_⟩) ?_ ?_
          rotate_left
          · intro w'
            go_simp
            with_reducible rfl
          rotate_left
          · simp only [Act.put, List.setIfInBounds_toArray, List.set_cons_zero, List.set_cons_succ, i64_w, i32_w]
            rfl
          refine pure_ (i := 7) (N := some 56) (v := ?_) (a' := ?_) #[true, true, true, true, true, true, false, true, false, false, false, false, false, false, false, false, false, false, false] rfl rfl (by kernel_rfl) (fun _ _ _ h => h) (Or.inl ⟨by rfl, ?_⟩) ?_ ?_
          rotate_left
          · intro w'
            go_simp
            with_reducible rfl
          rotate_left
          · simp only [Act.put, List.setIfInBounds_toArray, List.set_cons_zero, List.set_cons_succ, i64_w, i32_w]
            rfl
          refine pure_ (i := 8) (N := some 57) (v := ?_) (a' := ?_) #[true, true, true, true, true, true, false, true, true, false, false, false, false, false, false, false, false, false, false] rfl rfl (by kernel_rfl) (fun _ _ _ h => h) (Or.inl ⟨by rfl, ?_⟩) ?_ ?_
          rotate_left
          · intro w'
            go_simp
            with_reducible rfl
          rotate_left
          · simp only [Act.put, List.setIfInBounds_toArray, List.set_cons_zero, List.set_cons_succ, i64_w, i32_w]
            rfl
          refine pure_ (i := 9) (N := some 58) (v := ?_) (a' := ?_) #[true, true, true, true, true, true, false, true, true, true, false, false, false, false, false, false, false, false, false] rfl rfl (by kernel_rfl) (fun _ _ _ h => h) (Or.inl ⟨by rfl, ?_⟩) ?_ ?_
          rotate_left
          · intro w'
            go_simp
            with_reducible rfl
          rotate_left
          · simp only [Act.put, List.setIfInBounds_toArray, List.set_cons_zero, List.set_cons_succ, i64_w, i32_w]
            rfl
          refine pure_ (i := 10) (N := some 59) (v := ?_) (a' := ?_) #[true, true, true, true, true, true, false, true, true, true, true, false, false, false, false, false, false, false, false] rfl rfl (by kernel_rfl) (fun _ _ _ h => h) (Or.inl ⟨by rfl, ?_⟩) ?_ ?_
          rotate_left
          · intro w'
            go_simp
            with_reducible rfl
          rotate_left
          · simp only [Act.put, List.setIfInBounds_toArray, List.set_cons_zero, List.set_cons_succ, i64_w, i32_w]
            rfl
          refine pure_ (i := 11) (N := some 60) (v := ?_) (a' := ?_) #[true, true, true, true, true, true, false, true, true, true, true, true, false, false, false, false, false, false, false] rfl rfl (by kernel_rfl) (fun _ _ _ h => h) (Or.inl ⟨by rfl, ?_⟩) ?_ ?_
          rotate_left
          · intro w'
            go_simp
            with_reducible rfl
          rotate_left
          · simp only [Act.put, List.setIfInBounds_toArray, List.set_cons_zero, List.set_cons_succ, i64_w, i32_w]
            rfl
          refine pure_ (i := 12) (N := some 61) (v := ?_) (a' := ?_) #[true, true, true, true, true, true, false, true, true, true, true, true, true, false, false, false, false, false, false] rfl rfl (by kernel_rfl) (fun _ _ _ h => h) (Or.inl ⟨by rfl, ?_⟩) ?_ ?_
          rotate_left
          · intro w'
            go_simp
            with_reducible rfl
          rotate_left
          · simp only [Act.put, List.setIfInBounds_toArray, List.set_cons_zero, List.set_cons_succ, i64_w, i32_w]
            rfl
          refine pure_ (i := 13) (N := some 62) (v := ?_) (a' := ?_) #[true, true, true, true, true, true, false, true, true, true, true, true, true, true, false, false, false, false, false] rfl rfl (by kernel_rfl) (fun _ _ _ h => h) (Or.inl ⟨by rfl, ?_⟩) ?_ ?_
          rotate_left
          · intro w'
            go_simp
            with_reducible rfl
          rotate_left
          · simp only [Act.put, List.setIfInBounds_toArray, List.set_cons_zero, List.set_cons_succ, i64_w, i32_w]
            rfl
          refine take_ (i := 6) (N := some 55) (v := ?_) (a' := ?_) #[true, true, true, true, true, true, true, true, true, true, true, true, true, true, false, false, false, false, false] rfl rfl (by kernel_rfl) (fun _ _ _ h => h) (Or.inl ⟨by rfl, ?_⟩) hHeld ?_ ?_
          rotate_left
          · rintro w' ⟨s0, s1⟩
            go_simp
            with_reducible rfl
          rotate_left
          · simp only [Act.put, List.setIfInBounds_toArray, List.set_cons_zero, List.set_cons_succ, i64_w, i32_w]
            rfl
          refine take_ (i := 14) (N := some 63) (v := ?_) (a' := ?_) #[true, true, true, true, true, true, true, true, true, true, true, true, true, true, true, false, false, false, false] rfl rfl (by kernel_rfl) (fun _ _ _ h => h) (Or.inl ⟨by rfl, ?_⟩) hHeld ?_ ?_
          rotate_left
          · rintro w' ⟨s0, s1⟩
            go_simp
            with_reducible rfl
          rotate_left
          · simp only [Act.put, List.setIfInBounds_toArray, List.set_cons_zero, List.set_cons_succ, i64_w, i32_w]
            rfl
          refine one_ (i := 15) (N := some 64) #[true, true, true, true, true, true, true, true, true, true, true, true, true, true, true, true, false, false, false] rfl rfl (by kernel_rfl) (by decide) (fun K hK => ?_)
          refine goes_ Try.func36 (by kernel_rfl) rfl #[.int .u8 ld, .int .u8 (rd gl q)] (by rfl) rfl rfl (by (try simp only [List.map_toArray, List.map_cons, List.map_nil]); first | done | rfl) ?_
          with_reducible refine (label_mul.calls ld (rd gl q) _ _ (label_mul.some HLD.out (bytesB_rd HGB.out q HGN.out))).mono ?_
          rintro e w2 ⟨rfl, hB⟩
          have B1 := Aside0.mk hB
          clear hB
          have gz := (B1.out.cell (p := ⟨g1, i + 1 + k, none⟩) (World.block_lt_of_cell? _ _ X1.out)).trans X1.out
          have gf := (B1.out.frozen (p := ⟨g1, i + 1 + k, none⟩) (World.block_lt_of_cell? _ _ X1.out)).trans X3.out
          refine ⟨_, rfl, ?_⟩
          refine hK.out _ _ ⟨gz, (B1.out.cell (p := ⟨g2, q, none⟩) (World.block_lt_of_cell? _ _ X2.out)).trans X2.out⟩ (fun hHeld => ?_)
          clear hK K
          refine norm_ (a' := ?_) ?_ ?_
          rotate_left
          · show Act.put _ (some 64) _ = _
            simp only [Act.put, List.setIfInBounds_toArray, List.set_cons_zero, List.set_cons_succ, i64_w, i32_w]
            rfl
          refine pure_ (i := 16) (N := some 65) (v := ?_) (a' := ?_) #[true, true, true, true, true, true, true, true, true, true, true, true, true, true, true, true, true, false, false] rfl rfl (by kernel_rfl) (fun _ _ _ h => h) (Or.inl ⟨by rfl, ?_⟩) ?_ ?_
          rotate_left
          · intro w'
            go_simp
            with_reducible rfl
          rotate_left
          · simp only [Act.put, List.setIfInBounds_toArray, List.set_cons_zero, List.set_cons_succ, i64_w, i32_w]
            rfl
          refine pure_ (i := 17) (N := some 66) (v := ?_) (a' := ?_) #[true, true, true, true, true, true, true, true, true, true, true, true, true, true, true, true, true, true, false] rfl rfl (by kernel_rfl) (fun _ _ _ h => h) (Or.inl ⟨by rfl, ?_⟩) ?_ ?_
          rotate_left
          · intro w'
            go_simp
            with_reducible rfl
          rotate_left
          · simp only [Act.put, List.setIfInBounds_toArray, List.set_cons_zero, List.set_cons_succ, i64_w, i32_w]
            rfl
          refine last_ (i := 18) (N := none) #[true, true, true, true, true, true, true, true, true, true, true, true, true, true, true, true, true, true, true] rfl rfl (by kernel_rfl) (by decide) (fun K hK => ?_)
          refine skip_ (w1 := ?_) (by rfl) rfl ?_ ?_
          rotate_left
          · go_simp
            rfl
          refine hK.out _ _ ?_
          clear hK K
          refine done_ (by kernel_rfl) ?_
          clear y1 y2 y3 y4
          try go_wp2
          go_roundg (p - (k + 1))
          case rel =>
            refine ⟨k + 1, l.set (i + 1 + k) (Go.bits .xor .u8 (rd l (i + 1 + k : Nat)) (Rs.mulN ld.toNat (rd gl q).toNat : Nat)), by go_num, by omega, ⟨?_⟩, ⟨by rw [List.length_set]; exact HL.out⟩, ⟨?_⟩, ⟨?_⟩, ⟨?_⟩, ⟨?_⟩⟩
            · have h := HT.out
              rw [show p - k = (p - (k + 1)) + 1 from by omega] at h
              rw [HQ.out]
              exact h
            · exact bytesB_set HLB.out _ (xor_in8 (bytesB_rd HLB.out _ (by rw [HL.out]; omega)) mulN_in)
            · have h := Kd.R_putn (Kd.R_below (Kd.R_drew HO.out) B1.out) ((i + 1 + k : Nat) : Int) (Go.bits .xor .u8 (rd l (i + 1 + k : Nat)) (Rs.mulN ld.toNat (rd gl q).toNat : Nat))
              rw [Int.toNat_natCast] at h
              exact h
            · exact ((show Gc g2 gl wr.drew from HGC.out).below B1.out).far (by exact gne) _
            · exact (((show Below w.heap.size w wr.drew from HB.out.drew)).trans (B1.out.mono HB.out.size)).setCell (by dsimp only; omega) _
          case measure => omega
        · have d3 : decide ((k : Int) < (p : Int)) = false := decide_eq_false (by omega)
          go_wp2
          go_roundg (n - (i + 1))
          case rel => exact ⟨i + 1, l, by go_num, by omega, ⟨by have h := HT.out; rw [show p - k = 0 from by omega] at h; exact h⟩, HL, HLB, HO, HGC, HB⟩
          case measure => omega
    · have d2 : decide ((i : Int) < (n : Int)) = false := decide_eq_false (by omega)
      obtain rfl : i = n := by omega
      obtain ⟨i0, hi0, _, hsz, _⟩ := info_parts Try.infoU8
      have hR := Kd.R_reads' HO.out
      have hcut := cut_from (P := Try.prog) 58 5 .i64 Try.underlying58 hi0 1 hsz (some ⟨g1, 0, none⟩) (i + p) c1 (a0.size : Int) (by omega) (by have := HSZ.out; omega)
      rw [Int.toNat_natCast] at hcut
      have hr := Kd.C_drop (k := Kd.int .u8) (m := a0.size) (c := c1) hR.2.2 (by have := HSZ.out; omega) (by omega)
      obtain ⟨A1, hA1⟩ : ∃ A1, A1 = (if c1 = a0.size then (some ⟨g1, 0, none⟩ : Option Addr) else (some ⟨g1, 0, none⟩ : Option Addr).map (·.add (a0.size * 1))) := ⟨_, rfl⟩
      obtain ⟨m1, hm1⟩ : ∃ m1, m1 = i + p - a0.size := ⟨_, rfl⟩
      obtain ⟨m2, hm2⟩ : ∃ m2, m2 = c1 - a0.size := ⟨_, rfl⟩
      rw [← hA1, ← hm1, ← hm2] at hcut
      have hl1 : (l.drop a0.size).length = m1 := by rw [List.length_drop, hm1, ← hR.1]
      have hr' : (Kd.int .u8).C wr A1 m1 (l.drop a0.size) := by rw [hl1] at hr; rw [hA1]; exact hr
      have hcv := Kd.C_string (P := Try.prog) (A := A1) (c := m2) Try.underlying58 Try.underlying5 Try.underlying9 hr'
      have HRr := hid hr'
      have hn3 : (a0.size : Int) ≤ (i : Int) + p := by have := HSZ.out; omega
      have hzs : (strOfNums (l.drop a0.size)).size ≤ 1000000 := by rw [strOfNums_size, List.length_drop, HL.out]; omega
      have hza : a0.size ≤ 100000 := by omega
      clear hr hr' hl1 hm1 hm2 hA1 hR hi0 hsz
      go_wp2
      go_ret2
      have ee : encI gl p a0.size 0 (bytesOf a0 ++ List.replicate p 0) = l := by rw [← HR0.out, ← HFIN.out, ← HT.out, Nat.sub_self]; rfl
      refine ⟨?_, HB.out⟩
      rw [ee]
      rfl
theorem label_Encode.calls (k : Nat) (a0 : ByteArray) (a1 : Int) (r1 : ByteArray) (r2 : Int) (w : World) (h : label_Encode.f k a0 a1 = some (r1, r2)) :
    Calls Try.prog 14 #[.string a0, .int .i64 a1] w fun e w' => e = .returned (.tuple #[.string r1, .int .i64 r2]) ∧ Below w.heap.size w w' := by
  unfold label_Encode.f at h
  by_cases h0 : a1 < 0
  · rw [if_pos h0] at h
    cases h
    exact enc_bad a0 a1 w (.inl h0)
  · rw [if_neg h0] at h
    by_cases h1 : a1 > 64
    · rw [if_pos h1] at h
      cases h
      exact enc_bad a0 a1 w (.inr h1)
    · rw [if_neg h1] at h
      obtain ⟨t, ht, h⟩ := Option.bind_eq_some_iff.mp h
      cases t with
      | false =>
        rw [if_neg (by simp)] at h
        cases h
        exact enc_no a0 a1 w (by omega) (by omega) ht
      | true =>
        rw [if_pos rfl] at h
        obtain ⟨g, hg, h⟩ := Option.bind_eq_some_iff.mp h
        by_cases hc : bytesB g = true ∧ (g.length : Int) = a1 + 1 ∧ a0.size ≤ 100000 ∧ 0 < a0.size
        · rw [if_pos hc] at h
          obtain ⟨c1, c2, c3, c4⟩ := hc
          obtain ⟨p, rfl⟩ := Int.eq_ofNat_of_zero_le (show 0 ≤ a1 by omega)
          rw [Int.toNat_natCast] at h
          cases h
          exact enc_walk k a0 p g w (by omega) ht hg c1 (by omega) (by omega) (by omega)
        · rw [if_neg hc] at h; exact absurd h (by simp)

end Go.Proofs.Ytdgjanjoiabgfaa.Q
