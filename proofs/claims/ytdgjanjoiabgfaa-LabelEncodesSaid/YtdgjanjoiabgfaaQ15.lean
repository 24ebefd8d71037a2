-- written by a program of this session's (wip/hook.py: the kit's print, with functions proved by hand)
import Derived.Test.YtdgjanjoiabgfaaQ0
import Derived.Test.YtdgjanjoiabgfaaQ1
import Derived.Test.YtdgjanjoiabgfaaQ2
import Derived.Test.YtdgjanjoiabgfaaQ3
import Derived.Test.YtdgjanjoiabgfaaQ8
import Derived.Test.YtdgjanjoiabgfaaQ9
import Derived.Test.YtdgjanjoiabgfaaQ13
import Derived.Test.YtdgjanjoiabgfaaQ14
namespace Go.Proofs.Ytdgjanjoiabgfaa.Q
open Go.RowKit Go.Proofs.YtdgjanjoiabgfaaW.PrintWords Go.Proofs.YtdgjanjoiabgfaaW.PrintLast Go.Proofs.Ytdgjanjoiabgfaa.Hand Go.Proofs.YtdgjanjoiabgfaaW.PrintMore
attribute [local go_sem] max2_int min2_int max_two min_two max_three min_three max_four min_four   -- for this text's walks alone
set_option linter.unusedVariables false
set_option linter.unusedSimpArgs false

/-! ### silversidelaw03_LabelEncodes: function 3 -/
def silversidelaw03_LabelEncodes.j0 : Nat → ByteArray → Int → ByteArray → Int → Bool → Option (Bool)
  | 0, _, _, _, _, _ => none
  | k + 1, x0, x1, x5, x6, x29 => if x29 = true then (if x5.toList = ([] : List UInt8) then (if x6 = 2 then ((silversidelaw03_awake.f k).bind fun t246 => (some t246)) else (some false)) else (some false)) else (if x6 = 0 then ((silversideref03_Numbers.f k x0).bind fun t247 => ((silversideref03_Encode.f k t247 x1).bind fun t250 => ((silversideref03_Text.f k t250).bind fun t253 => (if x5.toList = t253.toList then ((silversidelaw03_awake.f k).bind fun t254 => (some t254)) else (some false))))) else (some false))
def silversidelaw03_LabelEncodes.f (k : Nat) (a0 : ByteArray) (a1 : Int) : Option (Bool) := (silversidelaw03_short.f a0).bind fun t242 => ((label_Encode.f k t242 a1).bind fun bt243 => (if a1 < 0 then (silversidelaw03_LabelEncodes.j0 k t242 a1 bt243.1 bt243.2 true) else (if a1 > 64 then (silversidelaw03_LabelEncodes.j0 k t242 a1 bt243.1 bt243.2 true) else ((silversideref03_Right.f (wrap64 ((t242.size : Int) + a1)) a1).bind fun t245 => (silversidelaw03_LabelEncodes.j0 k t242 a1 bt243.1 bt243.2 (!t245))))))
theorem silversidelaw03_LabelEncodes.mono_l : ∀ k, (∀ y0 y1 y2 y3 y4, LeO (silversidelaw03_LabelEncodes.j0 k y0 y1 y2 y3 y4) (silversidelaw03_LabelEncodes.j0 (k + 1) y0 y1 y2 y3 y4))
  | 0 => fun _ _ _ _ _ r h => by simp [silversidelaw03_LabelEncodes.j0] at h
  | k + 1 => by
    have ih0 := silversidelaw03_LabelEncodes.mono_l k
    · intro y0 y1 y2 y3 y4
      unfold silversidelaw03_LabelEncodes.j0
      repeat' first
      | (with_reducible exact ih0 _ _ _ _ _)
      | (with_reducible exact label_Encode.mono _ _ _)
      | (with_reducible exact silversidelaw03_awake.mono _)
      | (with_reducible exact silversideref03_Encode.mono _ _ _)
      | (with_reducible exact silversideref03_Numbers.mono _ _)
      | (with_reducible exact silversideref03_Text.mono _ _)
      | (with_reducible exact LeO.refl _)
      | (with_reducible exact LeO.none _)
      | (with_reducible refine LeO.ite ?_ ?_)
      | (with_reducible refine LeO.bind ?_ (fun _ => ?_))
      | exact ih0 _ _ _ _ _
      | exact label_Encode.mono _ _ _
      | exact silversidelaw03_awake.mono _
      | exact silversideref03_Encode.mono _ _ _
      | exact silversideref03_Numbers.mono _ _
      | exact silversideref03_Text.mono _ _
      | exact LeO.none _
      | refine LeO.ite ?_ ?_
      | refine LeO.bind ?_ (fun _ => ?_)
theorem silversidelaw03_LabelEncodes.mono : ∀ a0 a1 k, LeO (silversidelaw03_LabelEncodes.f k a0 a1) (silversidelaw03_LabelEncodes.f (k + 1) a0 a1) := by
  intro a0 a1 k
  have ih0 := silversidelaw03_LabelEncodes.mono_l k
  unfold silversidelaw03_LabelEncodes.f
  repeat' first
      | (with_reducible exact ih0 _ _ _ _ _)
      | (with_reducible exact label_Encode.mono _ _ _)
      | (with_reducible exact silversidelaw03_awake.mono _)
      | (with_reducible exact silversideref03_Encode.mono _ _ _)
      | (with_reducible exact silversideref03_Numbers.mono _ _)
      | (with_reducible exact silversideref03_Text.mono _ _)
      | (with_reducible exact LeO.refl _)
      | (with_reducible exact LeO.none _)
      | (with_reducible refine LeO.ite ?_ ?_)
      | (with_reducible refine LeO.bind ?_ (fun _ => ?_))
      | exact ih0 _ _ _ _ _
      | exact label_Encode.mono _ _ _
      | exact silversidelaw03_awake.mono _
      | exact silversideref03_Encode.mono _ _ _
      | exact silversideref03_Numbers.mono _ _
      | exact silversideref03_Text.mono _ _
      | exact LeO.none _
      | refine LeO.ite ?_ ?_
      | refine LeO.bind ?_ (fun _ => ?_)
set_option maxHeartbeats 8000000 in
set_option maxRecDepth 100000 in
theorem silversidelaw03_LabelEncodes.calls (k : Nat) (a0 : ByteArray) (a1 : Int) (r : Bool) (w : World) (h : silversidelaw03_LabelEncodes.f k a0 a1 = some r) :
    Calls Try.prog 3 #[.string a0, .int .i64 a1] w fun e w' => e = .returned (.bool r) ∧ Below w.heap.size w w' := by
  have HB := Aside0.mk (Below.refl w.heap.size w)
  have H : ((silversidelaw03_short.f a0).bind fun t242 => ((label_Encode.f k t242 a1).bind fun bt243 => (if a1 < 0 then (silversidelaw03_LabelEncodes.j0 k t242 a1 bt243.1 bt243.2 true) else (if a1 > 64 then (silversidelaw03_LabelEncodes.j0 k t242 a1 bt243.1 bt243.2 true) else ((silversideref03_Right.f (wrap64 ((t242.size : Int) + a1)) a1).bind fun t245 => (silversidelaw03_LabelEncodes.j0 k t242 a1 bt243.1 bt243.2 (!t245))))))) = some r := h
  clear h
  replace H := Option.bind_eq_some_iff.mp H
  obtain ⟨t242, A30, H⟩ := H
  replace H : ((label_Encode.f k t242 a1).bind fun bt243 => (if a1 < 0 then (silversidelaw03_LabelEncodes.j0 k t242 a1 bt243.1 bt243.2 true) else (if a1 > 64 then (silversidelaw03_LabelEncodes.j0 k t242 a1 bt243.1 bt243.2 true) else ((silversideref03_Right.f (wrap64 ((t242.size : Int) + a1)) a1).bind fun t245 => (silversidelaw03_LabelEncodes.j0 k t242 a1 bt243.1 bt243.2 (!t245)))))) = some r := H
  have A3 := Aside0.mk A30; (try simp only [Int.toNat_natCast] at A3)
  clear A30
  replace H := Option.bind_eq_some_iff.mp H
  obtain ⟨⟨t243, t244⟩, A40, H⟩ := H
  replace H : (if a1 < 0 then (silversidelaw03_LabelEncodes.j0 k t242 a1 t243 t244 true) else (if a1 > 64 then (silversidelaw03_LabelEncodes.j0 k t242 a1 t243 t244 true) else ((silversideref03_Right.f (wrap64 ((t242.size : Int) + a1)) a1).bind fun t245 => (silversidelaw03_LabelEncodes.j0 k t242 a1 t243 t244 (!t245))))) = some r := H
  have A4 := Aside0.mk A40; (try simp only [Int.toNat_natCast] at A4)
  clear A40
  have HC5 := Aside0.mk H
  clear H
  go_enter Try.func3, Try.ntmps3
  go_upto_region 3 with (first | ((with_reducible refine gate_callee (f := 13) rfl ?_); refine goesL_ (some 8) rfl rfl Try.func13 (by kernel_rfl) rfl #[.string a0] rfl (by (try simp only [List.map_toArray, List.map_cons, List.map_nil]); first | done | rfl | (simp only [List.length_drop, List.length_take]; rfl)) ?_; (with_reducible refine (silversidelaw03_short.calls a0 t242 _ A3.out).mono ?_); rintro e w6 ⟨rfl, hb⟩; refine ⟨_, rfl, ?_⟩; have n0_ := Aside0.mk (below_step (by repeat (first | (with_reducible first | exact HB.out | apply below_alloc | apply pw_below_drewN | apply below_drew1) | exact HB.out)) hb); clear HB; have HB := n0_; clear n0_; (try clear hb); (try clear hb2); (try clear hk); (try clear hi)) | ((with_reducible refine gate_callee (f := 14) rfl ?_); refine goesL_ (some 12) rfl rfl Try.func14 (by kernel_rfl) rfl #[.string t242, .int .i64 a1] rfl (by (try simp only [List.map_toArray, List.map_cons, List.map_nil]); first | done | rfl | (simp only [List.length_drop, List.length_take]; rfl)) ?_; (with_reducible refine (label_Encode.calls k t242 a1 t243 t244 _ A4.out).mono ?_); rintro e w7 ⟨rfl, hb⟩; refine ⟨_, rfl, ?_⟩; have n0_ := Aside0.mk (below_step (by repeat (first | (with_reducible first | exact HB.out | apply below_alloc | apply pw_below_drewN | apply below_drew1) | exact HB.out)) hb); clear HB; have HB := n0_; clear n0_; (try clear hb); (try clear hb2); (try clear hk); (try clear hi)))
  (try simp only [Act.put, List.setIfInBounds_toArray, List.set_cons_zero, List.set_cons_succ])
  go_cut [29] (fun v29 wc => ∃ (kq : Nat) (x29_4 : Bool), v29 = .bool x29_4 ∧ Aside0 (silversidelaw03_LabelEncodes.j0 kq t242 a1 t243 t244 x29_4 = some r) ∧ Aside0 (kq ≤ k) ∧ Aside0 (Below w.heap.size w wc))
  case first =>
    have H := HC5.out
    clear HC5
    by_cases c8 : a1 < 0
    · rw [if_pos c8] at H
      have c8b0 : decide (a1 < 0) = true := decide_eq_true c8
      clear c8
      (first | rw [c8b0] | (simp only [i64_w, i32_w]; rw [c8b0]) | skip)
      have H' := Aside0.mk H
      clear H
      go_wp2
      go_meet
      case rel => exact ⟨_, (true), (by first | rfl | (simp; done) | (simp [*]; done)), H', ⟨by first | omega | exact Nat.le_refl _⟩, ⟨by repeat (first | (with_reducible first | exact HB.out | apply below_alloc | apply pw_below_drewN | apply below_drew1) | exact HB.out)⟩⟩
    · rw [if_neg c8] at H
      have c8b0 : decide (a1 < 0) = false := decide_eq_false c8
      clear c8
      (first | rw [c8b0] | (simp only [i64_w, i32_w]; rw [c8b0]) | skip)
      by_cases c9 : a1 > 64
      · rw [if_pos c9] at H
        have c9b0 : decide (64 < a1) = true := decide_eq_true c9
        clear c9
        have H' := Aside0.mk H
        clear H
        go_wp2
        go_meet
        case rel => exact ⟨_, (true), (by first | rfl | (simp; done) | (simp [*]; done)), H', ⟨by first | omega | exact Nat.le_refl _⟩, ⟨by repeat (first | (with_reducible first | exact HB.out | apply below_alloc | apply pw_below_drewN | apply below_drew1) | exact HB.out)⟩⟩
      · rw [if_neg c9] at H
        have c9b0 : decide (64 < a1) = false := decide_eq_false c9
        clear c9
        replace H := Option.bind_eq_some_iff.mp H
        obtain ⟨t245, A100, H⟩ := H
        replace H : (silversidelaw03_LabelEncodes.j0 k t242 a1 t243 t244 (!t245)) = some r := H
        have A10 := Aside0.mk A100; (try simp only [Int.toNat_natCast] at A10)
        clear A100
        have H' := Aside0.mk H
        clear H
        go_wp2_with (first | (go_at_call 15; (with_reducible refine (silversideref03_Right.calls (wrap64 ((t242.size : Int) + a1)) a1 t245 _ A10.out).mono ?_); rintro e w' ⟨rfl, ⟨nd, rfl⟩⟩))
        go_meet
        case rel => exact ⟨_, (!t245), (by first | rfl | (simp; done) | (simp [*]; done)), H', ⟨by first | omega | exact Nat.le_refl _⟩, ⟨by repeat (first | (with_reducible first | exact HB.out | apply below_alloc | apply pw_below_drewN | apply below_drew1) | exact HB.out)⟩⟩
  case rest =>
    clear HC5
    try clear c1
    try clear p2
    try clear c3
    try clear p6
    try clear c8
    try clear c8b0
    try clear c9
    try clear c9b0
    obtain ⟨kq, x29_4, rfl, HA, HJ4, HB⟩ := hcut
    cases kq with
    | zero => exact absurd HA.out (by simp [silversidelaw03_LabelEncodes.j0])
    | succ kj4 =>
      have H := HA.out
      clear HA
      simp only [silversidelaw03_LabelEncodes.j0] at H
      by_cases c11 : x29_4 = true
      · subst c11
        have H1 : (if t243.toList = ([] : List UInt8) then (if t244 = 2 then ((silversidelaw03_awake.f kj4).bind fun t246 => (some t246)) else (some false)) else (some false)) = some r := by rw [if_pos rfl] at H; exact H
        clear H
        have H := H1
        clear H1
        by_cases c12 : t243.toList = ([] : List UInt8)
        · rw [if_pos c12] at H
          have c12b0 : (t243.toList == ([] : List UInt8)) = true := beq_iff_eq.mpr c12
          have c12b1 : (t243.toList != ([] : List UInt8)) = false := bne_eq_false_iff_eq.mpr c12
          clear c12
          by_cases c13 : t244 = 2
          · rw [if_pos c13] at H
            have c13b0 : (t244 == 2) = true := beq_iff_eq.mpr c13
            have c13b1 : (t244 != 2) = false := bne_eq_false_iff_eq.mpr c13
            clear c13
            replace H := Option.bind_eq_some_iff.mp H
            obtain ⟨t246, A140, H⟩ := H
            replace H : (some t246) = some r := H
            have A14 := Aside0.mk A140; (try simp only [Int.toNat_natCast] at A14)
            clear A140
            obtain rfl := Option.some.inj H
            go_wp2_with (first | (go_at_call 16; (with_reducible refine (silversidelaw03_awake.calls kj4  t246 _ A14.out).mono ?_); rintro e w15 ⟨rfl, hb⟩; have n0_ := Aside0.mk (below_step (by repeat (first | (with_reducible first | exact HB.out | apply below_alloc | apply pw_below_drewN | apply below_drew1) | exact HB.out)) hb); clear HB; have HB := n0_; clear n0_; (try clear hb); (try clear hb2); (try clear hk); (try clear hi)))
            go_ret
            exact ⟨by first | rfl | (simp [errW_none, errW_some] <;> rfl) | (simp [*, errW_none, errW_some] <;> rfl), by repeat (first | (with_reducible first | exact HB.out | apply below_alloc | apply pw_below_drewN | apply below_drew1) | exact HB.out)⟩
          · rw [if_neg c13] at H
            have c13b0 : (t244 == 2) = false := beq_eq_false_iff_ne.mpr c13
            have c13b1 : (t244 != 2) = true := bne_iff_ne.mpr c13
            obtain rfl := Option.some.inj H
            go_wp2
            go_ret
            exact ⟨by first | rfl | (simp [errW_none, errW_some] <;> rfl) | (simp [*, errW_none, errW_some] <;> rfl), by repeat (first | (with_reducible first | exact HB.out | apply below_alloc | apply pw_below_drewN | apply below_drew1) | exact HB.out)⟩
        · rw [if_neg c12] at H
          have c12b0 : (t243.toList == ([] : List UInt8)) = false := beq_eq_false_iff_ne.mpr c12
          have c12b1 : (t243.toList != ([] : List UInt8)) = true := bne_iff_ne.mpr c12
          obtain rfl := Option.some.inj H
          go_wp2
          go_ret
          exact ⟨by first | rfl | (simp [errW_none, errW_some] <;> rfl) | (simp [*, errW_none, errW_some] <;> rfl), by repeat (first | (with_reducible first | exact HB.out | apply below_alloc | apply pw_below_drewN | apply below_drew1) | exact HB.out)⟩
      · replace c11 := Bool.eq_false_iff.mpr c11
        subst c11
        have H1 : (if t244 = 0 then ((silversideref03_Numbers.f kj4 t242).bind fun t247 => ((silversideref03_Encode.f kj4 t247 a1).bind fun t250 => ((silversideref03_Text.f kj4 t250).bind fun t253 => (if t243.toList = t253.toList then ((silversidelaw03_awake.f kj4).bind fun t254 => (some t254)) else (some false))))) else (some false)) = some r := by rw [if_neg (show ¬ (false = true) by decide)] at H; exact H
        clear H
        have H := H1
        clear H1
        by_cases c16 : t244 = 0
        · rw [if_pos c16] at H
          have c16b0 : (t244 == 0) = true := beq_iff_eq.mpr c16
          have c16b1 : (t244 != 0) = false := bne_eq_false_iff_eq.mpr c16
          clear c16
          replace H := Option.bind_eq_some_iff.mp H
          obtain ⟨t247, A170, H⟩ := H
          replace H : ((silversideref03_Encode.f kj4 t247 a1).bind fun t250 => ((silversideref03_Text.f kj4 t250).bind fun t253 => (if t243.toList = t253.toList then ((silversidelaw03_awake.f kj4).bind fun t254 => (some t254)) else (some false)))) = some r := H
          have A17 := Aside0.mk A170; (try simp only [Int.toNat_natCast] at A17)
          clear A170
          replace H := Option.bind_eq_some_iff.mp H
          obtain ⟨t250, A180, H⟩ := H
          replace H : ((silversideref03_Text.f kj4 t250).bind fun t253 => (if t243.toList = t253.toList then ((silversidelaw03_awake.f kj4).bind fun t254 => (some t254)) else (some false))) = some r := H
          have A18 := Aside0.mk A180; (try simp only [Int.toNat_natCast] at A18)
          clear A180
          replace H := Option.bind_eq_some_iff.mp H
          obtain ⟨t253, A190, H⟩ := H
          replace H : (if t243.toList = t253.toList then ((silversidelaw03_awake.f kj4).bind fun t254 => (some t254)) else (some false)) = some r := H
          have A19 := Aside0.mk A190; (try simp only [Int.toNat_natCast] at A19)
          clear A190
          by_cases c20 : t243.toList = t253.toList
          · rw [if_pos c20] at H
            have c20b0 : (t243.toList == t253.toList) = true := beq_iff_eq.mpr c20
            have c20b1 : (t243.toList != t253.toList) = false := bne_eq_false_iff_eq.mpr c20
            clear c20
            replace H := Option.bind_eq_some_iff.mp H
            obtain ⟨t254, A210, H⟩ := H
            replace H : (some t254) = some r := H
            have A21 := Aside0.mk A210; (try simp only [Int.toNat_natCast] at A21)
            clear A210
            obtain rfl := Option.some.inj H
            go_wp2_with (first | (go_at_call 19; (with_reducible refine (silversideref03_Numbers.calls kj4 t242 t247 _ A17.out).mono ?_); rintro e w22 ⟨v248, rfl, ho0, hb⟩; have n0_ := Aside0.mk (Kd.R_lower ho0 (below_size (by repeat (first | (with_reducible first | exact HB.out | apply below_alloc | apply pw_below_drewN | apply below_drew1) | exact HB.out)))); have n1_ := Aside0.mk (below_step (by repeat (first | (with_reducible first | exact HB.out | apply below_alloc | apply pw_below_drewN | apply below_drew1) | exact HB.out)) hb); clear HB; have HO249 := n0_; have HB := n1_; clear n0_ n1_; (try clear hb); (try clear hb2); (try clear hk); (try clear hi); (try clear ho0); obtain ⟨Ao23, co23, eo23⟩ := Kd.R_slice HO249.out; subst eo23) | (go_at_call 18; (with_reducible refine (silversideref03_Encode.calls kj4 _ _ t247 a1 t250 _ ?side1 ?side2 A18.out).mono ?_); (case side1 => repeat (first | exact (Kd.R_reads' HO249.out).2.2 | (with_reducible refine Kd.C_alloc ?_ _) | (with_reducible refine Kd.C_drewN ?_ _) | (with_reducible refine Kd.C_drew ?_))); (case side2 => exact (Kd.R_reads' HO249.out).2.1); rintro e w24 ⟨v251, rfl, ho0, hb⟩; have n0_ := Aside0.mk (Kd.R_elder' (by (with_reducible repeat (first | apply Kd.R_alloc | apply Kd.R_drewN | apply Kd.R_drew)); exact HO249.out) (Kd.R_base ho0) hb); have n1_ := Aside0.mk (Kd.R_lower (Kd.R_new' ho0 (Kd.R_lt (by (with_reducible repeat (first | apply Kd.R_alloc | apply Kd.R_drewN | apply Kd.R_drew)); exact HO249.out))) (below_size (by repeat (first | (with_reducible first | exact HB.out | apply below_alloc | apply pw_below_drewN | apply below_drew1) | exact HB.out)))); have n2_ := Aside0.mk (below_step (by repeat (first | (with_reducible first | exact HB.out | apply below_alloc | apply pw_below_drewN | apply below_drew1) | exact HB.out)) hb); clear HO249; clear HB; have HO249 := n0_; have HO252 := n1_; have HB := n2_; clear n0_ n1_ n2_; (try clear hb); (try clear hb2); (try clear hk); (try clear hi); (try clear ho0); obtain ⟨Ao25, co25, eo25⟩ := Kd.R_slice HO252.out; subst eo25) | (go_at_call 17; (with_reducible refine (silversideref03_Text.calls kj4 _ _ t250 t253 _ ?side1 ?side2 A19.out).mono ?_); (case side1 => repeat (first | exact (Kd.R_reads' HO252.out).2.2 | (with_reducible refine Kd.C_alloc ?_ _) | (with_reducible refine Kd.C_drewN ?_ _) | (with_reducible refine Kd.C_drew ?_))); (case side2 => exact (Kd.R_reads' HO252.out).2.1); rintro e w26 ⟨rfl, hb⟩; have n0_ := Aside0.mk (Kd.R_below (by (with_reducible repeat (first | apply Kd.R_alloc | apply Kd.R_drewN | apply Kd.R_drew)); exact HO249.out) hb); have n1_ := Aside0.mk (Kd.R_below (by (with_reducible repeat (first | apply Kd.R_alloc | apply Kd.R_drewN | apply Kd.R_drew)); exact HO252.out) hb); have n2_ := Aside0.mk (below_step (by repeat (first | (with_reducible first | exact HB.out | apply below_alloc | apply pw_below_drewN | apply below_drew1) | exact HB.out)) hb); clear HO249; clear HO252; clear HB; have HO249 := n0_; have HO252 := n1_; have HB := n2_; clear n0_ n1_ n2_; (try clear hb); (try clear hb2); (try clear hk); (try clear hi)) | (go_at_call 16; (with_reducible refine (silversidelaw03_awake.calls kj4  t254 _ A21.out).mono ?_); rintro e w27 ⟨rfl, hb⟩; have n0_ := Aside0.mk (Kd.R_below (by (with_reducible repeat (first | apply Kd.R_alloc | apply Kd.R_drewN | apply Kd.R_drew)); exact HO249.out) hb); have n1_ := Aside0.mk (Kd.R_below (by (with_reducible repeat (first | apply Kd.R_alloc | apply Kd.R_drewN | apply Kd.R_drew)); exact HO252.out) hb); have n2_ := Aside0.mk (below_step (by repeat (first | (with_reducible first | exact HB.out | apply below_alloc | apply pw_below_drewN | apply below_drew1) | exact HB.out)) hb); clear HO249; clear HO252; clear HB; have HO249 := n0_; have HO252 := n1_; have HB := n2_; clear n0_ n1_ n2_; (try clear hb); (try clear hb2); (try clear hk); (try clear hi)))
            go_ret
            exact ⟨by first | rfl | (simp [errW_none, errW_some] <;> rfl) | (simp [*, errW_none, errW_some] <;> rfl), by repeat (first | (with_reducible first | exact HB.out | apply below_alloc | apply pw_below_drewN | apply below_drew1) | exact HB.out)⟩
          · rw [if_neg c20] at H
            have c20b0 : (t243.toList == t253.toList) = false := beq_eq_false_iff_ne.mpr c20
            have c20b1 : (t243.toList != t253.toList) = true := bne_iff_ne.mpr c20
            obtain rfl := Option.some.inj H
            go_wp2_with (first | (go_at_call 19; (with_reducible refine (silversideref03_Numbers.calls kj4 t242 t247 _ A17.out).mono ?_); rintro e w28 ⟨v248, rfl, ho0, hb⟩; have n0_ := Aside0.mk (Kd.R_lower ho0 (below_size (by repeat (first | (with_reducible first | exact HB.out | apply below_alloc | apply pw_below_drewN | apply below_drew1) | exact HB.out)))); have n1_ := Aside0.mk (below_step (by repeat (first | (with_reducible first | exact HB.out | apply below_alloc | apply pw_below_drewN | apply below_drew1) | exact HB.out)) hb); clear HB; have HO249 := n0_; have HB := n1_; clear n0_ n1_; (try clear hb); (try clear hb2); (try clear hk); (try clear hi); (try clear ho0); obtain ⟨Ao29, co29, eo29⟩ := Kd.R_slice HO249.out; subst eo29) | (go_at_call 18; (with_reducible refine (silversideref03_Encode.calls kj4 _ _ t247 a1 t250 _ ?side1 ?side2 A18.out).mono ?_); (case side1 => repeat (first | exact (Kd.R_reads' HO249.out).2.2 | (with_reducible refine Kd.C_alloc ?_ _) | (with_reducible refine Kd.C_drewN ?_ _) | (with_reducible refine Kd.C_drew ?_))); (case side2 => exact (Kd.R_reads' HO249.out).2.1); rintro e w30 ⟨v251, rfl, ho0, hb⟩; have n0_ := Aside0.mk (Kd.R_elder' (by (with_reducible repeat (first | apply Kd.R_alloc | apply Kd.R_drewN | apply Kd.R_drew)); exact HO249.out) (Kd.R_base ho0) hb); have n1_ := Aside0.mk (Kd.R_lower (Kd.R_new' ho0 (Kd.R_lt (by (with_reducible repeat (first | apply Kd.R_alloc | apply Kd.R_drewN | apply Kd.R_drew)); exact HO249.out))) (below_size (by repeat (first | (with_reducible first | exact HB.out | apply below_alloc | apply pw_below_drewN | apply below_drew1) | exact HB.out)))); have n2_ := Aside0.mk (below_step (by repeat (first | (with_reducible first | exact HB.out | apply below_alloc | apply pw_below_drewN | apply below_drew1) | exact HB.out)) hb); clear HO249; clear HB; have HO249 := n0_; have HO252 := n1_; have HB := n2_; clear n0_ n1_ n2_; (try clear hb); (try clear hb2); (try clear hk); (try clear hi); (try clear ho0); obtain ⟨Ao31, co31, eo31⟩ := Kd.R_slice HO252.out; subst eo31) | (go_at_call 17; (with_reducible refine (silversideref03_Text.calls kj4 _ _ t250 t253 _ ?side1 ?side2 A19.out).mono ?_); (case side1 => repeat (first | exact (Kd.R_reads' HO252.out).2.2 | (with_reducible refine Kd.C_alloc ?_ _) | (with_reducible refine Kd.C_drewN ?_ _) | (with_reducible refine Kd.C_drew ?_))); (case side2 => exact (Kd.R_reads' HO252.out).2.1); rintro e w32 ⟨rfl, hb⟩; have n0_ := Aside0.mk (Kd.R_below (by (with_reducible repeat (first | apply Kd.R_alloc | apply Kd.R_drewN | apply Kd.R_drew)); exact HO249.out) hb); have n1_ := Aside0.mk (Kd.R_below (by (with_reducible repeat (first | apply Kd.R_alloc | apply Kd.R_drewN | apply Kd.R_drew)); exact HO252.out) hb); have n2_ := Aside0.mk (below_step (by repeat (first | (with_reducible first | exact HB.out | apply below_alloc | apply pw_below_drewN | apply below_drew1) | exact HB.out)) hb); clear HO249; clear HO252; clear HB; have HO249 := n0_; have HO252 := n1_; have HB := n2_; clear n0_ n1_ n2_; (try clear hb); (try clear hb2); (try clear hk); (try clear hi)))
            go_ret
            exact ⟨by first | rfl | (simp [errW_none, errW_some] <;> rfl) | (simp [*, errW_none, errW_some] <;> rfl), by repeat (first | (with_reducible first | exact HB.out | apply below_alloc | apply pw_below_drewN | apply below_drew1) | exact HB.out)⟩
        · rw [if_neg c16] at H
          have c16b0 : (t244 == 0) = false := beq_eq_false_iff_ne.mpr c16
          have c16b1 : (t244 != 0) = true := bne_iff_ne.mpr c16
          obtain rfl := Option.some.inj H
          go_wp2
          go_ret
          exact ⟨by first | rfl | (simp [errW_none, errW_some] <;> rfl) | (simp [*, errW_none, errW_some] <;> rfl), by repeat (first | (with_reducible first | exact HB.out | apply below_alloc | apply pw_below_drewN | apply below_drew1) | exact HB.out)⟩

/-- THE ONE PURE STATEMENT of silversidelaw03_LabelEncodes: yours. -/
def silversidelaw03_LabelEncodes.Pure : Prop := ∀ (a0 : ByteArray) (a1 : Int), a0.size ≤ 140737488351232 → (Lit.int .i64 a1).wf = true → ∃ k, silversidelaw03_LabelEncodes.f k a0 a1 = some true
theorem silversidelaw03_LabelEncodes.walk (P : silversidelaw03_LabelEncodes.Pure) (a0 : ByteArray) (a1 : Int) (w : World) (w0 : a0.size ≤ 140737488351232) (w1 : (Lit.int .i64 a1).wf = true) :
    Calls Try.prog 3 #[.string a0, .int .i64 a1] w fun e w' => e = .returned (.bool true) ∧ Below w.heap.size w w' := by
  obtain ⟨k, h⟩ := P a0 a1 w0 w1
  refine (silversidelaw03_LabelEncodes.calls k a0 a1 true w h).mono ?_
  rintro e w' ⟨rfl, hd⟩
  exact ⟨rfl, hd⟩

end Go.Proofs.Ytdgjanjoiabgfaa.Q
