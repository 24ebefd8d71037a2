-- written by a program of this session's (wip/hook.py: the kit's print, with functions proved by hand)
import Derived.Test.YtdgjanjoiabgfaaQ0
import Derived.Test.YtdgjanjoiabgfaaQ7
import Derived.Test.YtdgjanjoiabgfaaQ8
import Derived.Test.YtdgjanjoiabgfaaQ26
namespace Go.Proofs.Ytdgjanjoiabgfaa.Q
open Go.RowKit Go.Proofs.YtdgjanjoiabgfaaW.PrintWords Go.Proofs.YtdgjanjoiabgfaaW.PrintLast Go.Proofs.Ytdgjanjoiabgfaa.Hand Go.Proofs.YtdgjanjoiabgfaaW.PrintMore
attribute [local go_sem] max2_int min2_int max_two min_two max_three min_three max_four min_four   -- for this text's walks alone
set_option linter.unusedVariables false
set_option linter.unusedSimpArgs false

/-! ### silversidelaw03_LabelRing: function 10 -/
def silversidelaw03_LabelRing.j0 : Nat → Int → Int → Bool → Option (Bool)
  | 0, _, _, _ => none
  | k + 1, x0, x1, x54 => if x54 = true then (some false) else (if x1 = 0 then ((silversidelaw03_awake.f k).bind fun t336 => (some t336)) else ((label_Inverse.f x1).bind fun bt337 => (if bt337.2 = 0 then ((label_Mul.f x0 x1).bind fun t339 => ((label_Mul.f t339 bt337.1).bind fun t340 => (if t340 = x0 then ((silversidelaw03_awake.f k).bind fun t341 => (some t341)) else (some false)))) else (some false))))
def silversidelaw03_LabelRing.f (k : Nat) (a0 : Int) (a1 : Int) (a2 : Int) : Option (Bool) := (label_Mul.f a0 a1).bind fun t325 => ((label_Mul.f a1 a0).bind fun t326 => (if t325 = t326 then ((label_Mul.f a1 a2).bind fun t327 => ((label_Mul.f a0 t327).bind fun t328 => ((label_Mul.f a0 a1).bind fun t329 => ((label_Mul.f t329 a2).bind fun t330 => (if t328 = t330 then ((label_Mul.f a0 (Go.bits .xor .u8 a1 a2)).bind fun t331 => ((label_Mul.f a0 a1).bind fun t332 => ((label_Mul.f a0 a2).bind fun t333 => (if t331 = (Go.bits .xor .u8 t332 t333) then ((label_Mul.f a0 1).bind fun t334 => (if t334 = a0 then ((label_Mul.f a0 0).bind fun t335 => (silversidelaw03_LabelRing.j0 k a0 a1 (t335 != 0))) else (silversidelaw03_LabelRing.j0 k a0 a1 true))) else (silversidelaw03_LabelRing.j0 k a0 a1 true))))) else (silversidelaw03_LabelRing.j0 k a0 a1 true)))))) else (silversidelaw03_LabelRing.j0 k a0 a1 true)))
theorem silversidelaw03_LabelRing.mono_l : ∀ k, (∀ y0 y1 y2, LeO (silversidelaw03_LabelRing.j0 k y0 y1 y2) (silversidelaw03_LabelRing.j0 (k + 1) y0 y1 y2))
  | 0 => fun _ _ _ r h => by simp [silversidelaw03_LabelRing.j0] at h
  | k + 1 => by
    have ih0 := silversidelaw03_LabelRing.mono_l k
    · intro y0 y1 y2
      unfold silversidelaw03_LabelRing.j0
      repeat' first
      | (with_reducible exact ih0 _ _ _)
      | (with_reducible exact silversidelaw03_awake.mono _)
      | (with_reducible exact LeO.refl _)
      | (with_reducible exact LeO.none _)
      | (with_reducible refine LeO.ite ?_ ?_)
      | (with_reducible refine LeO.bind ?_ (fun _ => ?_))
      | exact ih0 _ _ _
      | exact silversidelaw03_awake.mono _
      | exact LeO.none _
      | refine LeO.ite ?_ ?_
      | refine LeO.bind ?_ (fun _ => ?_)
theorem silversidelaw03_LabelRing.mono : ∀ a0 a1 a2 k, LeO (silversidelaw03_LabelRing.f k a0 a1 a2) (silversidelaw03_LabelRing.f (k + 1) a0 a1 a2) := by
  intro a0 a1 a2 k
  have ih0 := silversidelaw03_LabelRing.mono_l k
  unfold silversidelaw03_LabelRing.f
  repeat' first
      | (with_reducible exact ih0 _ _ _)
      | (with_reducible exact silversidelaw03_awake.mono _)
      | (with_reducible exact LeO.refl _)
      | (with_reducible exact LeO.none _)
      | (with_reducible refine LeO.ite ?_ ?_)
      | (with_reducible refine LeO.bind ?_ (fun _ => ?_))
      | exact ih0 _ _ _
      | exact silversidelaw03_awake.mono _
      | exact LeO.none _
      | refine LeO.ite ?_ ?_
      | refine LeO.bind ?_ (fun _ => ?_)
set_option maxHeartbeats 8000000 in
set_option maxRecDepth 100000 in
theorem silversidelaw03_LabelRing.calls (k : Nat) (a0 : Int) (a1 : Int) (a2 : Int) (r : Bool) (w : World) (h : silversidelaw03_LabelRing.f k a0 a1 a2 = some r) :
    Calls Try.prog 10 #[.int .u8 a0, .int .u8 a1, .int .u8 a2] w fun e w' => e = .returned (.bool r) ∧ Below w.heap.size w w' := by
  have HB := Aside0.mk (Below.refl w.heap.size w)
  have H : ((label_Mul.f a0 a1).bind fun t325 => ((label_Mul.f a1 a0).bind fun t326 => (if t325 = t326 then ((label_Mul.f a1 a2).bind fun t327 => ((label_Mul.f a0 t327).bind fun t328 => ((label_Mul.f a0 a1).bind fun t329 => ((label_Mul.f t329 a2).bind fun t330 => (if t328 = t330 then ((label_Mul.f a0 (Go.bits .xor .u8 a1 a2)).bind fun t331 => ((label_Mul.f a0 a1).bind fun t332 => ((label_Mul.f a0 a2).bind fun t333 => (if t331 = (Go.bits .xor .u8 t332 t333) then ((label_Mul.f a0 1).bind fun t334 => (if t334 = a0 then ((label_Mul.f a0 0).bind fun t335 => (silversidelaw03_LabelRing.j0 k a0 a1 (t335 != 0))) else (silversidelaw03_LabelRing.j0 k a0 a1 true))) else (silversidelaw03_LabelRing.j0 k a0 a1 true))))) else (silversidelaw03_LabelRing.j0 k a0 a1 true)))))) else (silversidelaw03_LabelRing.j0 k a0 a1 true)))) = some r := h
  clear h
  have HC4 := Aside0.mk H
  clear H
  go_enter Try.func10, Try.ntmps10
  go_upto_region 1 with (fail)
  go_cut [54] (fun v54 wc => ∃ (kq : Nat) (x54_3 : Bool), v54 = .bool x54_3 ∧ Aside0 (silversidelaw03_LabelRing.j0 kq a0 a1 x54_3 = some r) ∧ Aside0 (kq ≤ k) ∧ Aside0 (Below w.heap.size w wc))
  case first =>
    have H := HC4.out
    clear HC4
    replace H := Option.bind_eq_some_iff.mp H
    obtain ⟨t325, A50, H⟩ := H
    replace H : ((label_Mul.f a1 a0).bind fun t326 => (if t325 = t326 then ((label_Mul.f a1 a2).bind fun t327 => ((label_Mul.f a0 t327).bind fun t328 => ((label_Mul.f a0 a1).bind fun t329 => ((label_Mul.f t329 a2).bind fun t330 => (if t328 = t330 then ((label_Mul.f a0 (Go.bits .xor .u8 a1 a2)).bind fun t331 => ((label_Mul.f a0 a1).bind fun t332 => ((label_Mul.f a0 a2).bind fun t333 => (if t331 = (Go.bits .xor .u8 t332 t333) then ((label_Mul.f a0 1).bind fun t334 => (if t334 = a0 then ((label_Mul.f a0 0).bind fun t335 => (silversidelaw03_LabelRing.j0 k a0 a1 (t335 != 0))) else (silversidelaw03_LabelRing.j0 k a0 a1 true))) else (silversidelaw03_LabelRing.j0 k a0 a1 true))))) else (silversidelaw03_LabelRing.j0 k a0 a1 true)))))) else (silversidelaw03_LabelRing.j0 k a0 a1 true))) = some r := H
    have A5 := Aside0.mk A50; (try simp only [Int.toNat_natCast] at A5)
    clear A50
    replace H := Option.bind_eq_some_iff.mp H
    obtain ⟨t326, A60, H⟩ := H
    replace H : (if t325 = t326 then ((label_Mul.f a1 a2).bind fun t327 => ((label_Mul.f a0 t327).bind fun t328 => ((label_Mul.f a0 a1).bind fun t329 => ((label_Mul.f t329 a2).bind fun t330 => (if t328 = t330 then ((label_Mul.f a0 (Go.bits .xor .u8 a1 a2)).bind fun t331 => ((label_Mul.f a0 a1).bind fun t332 => ((label_Mul.f a0 a2).bind fun t333 => (if t331 = (Go.bits .xor .u8 t332 t333) then ((label_Mul.f a0 1).bind fun t334 => (if t334 = a0 then ((label_Mul.f a0 0).bind fun t335 => (silversidelaw03_LabelRing.j0 k a0 a1 (t335 != 0))) else (silversidelaw03_LabelRing.j0 k a0 a1 true))) else (silversidelaw03_LabelRing.j0 k a0 a1 true))))) else (silversidelaw03_LabelRing.j0 k a0 a1 true)))))) else (silversidelaw03_LabelRing.j0 k a0 a1 true)) = some r := H
    have A6 := Aside0.mk A60; (try simp only [Int.toNat_natCast] at A6)
    clear A60
    by_cases c7 : t325 = t326
    · rw [if_pos c7] at H
      have c7b0 : (t325 == t326) = true := beq_iff_eq.mpr c7
      have c7b1 : (t325 != t326) = false := bne_eq_false_iff_eq.mpr c7
      clear c7
      (first | rw [c7b0] | (simp only [i64_w, i32_w]; rw [c7b0]) | skip)
      replace H := Option.bind_eq_some_iff.mp H
      obtain ⟨t327, A80, H⟩ := H
      replace H : ((label_Mul.f a0 t327).bind fun t328 => ((label_Mul.f a0 a1).bind fun t329 => ((label_Mul.f t329 a2).bind fun t330 => (if t328 = t330 then ((label_Mul.f a0 (Go.bits .xor .u8 a1 a2)).bind fun t331 => ((label_Mul.f a0 a1).bind fun t332 => ((label_Mul.f a0 a2).bind fun t333 => (if t331 = (Go.bits .xor .u8 t332 t333) then ((label_Mul.f a0 1).bind fun t334 => (if t334 = a0 then ((label_Mul.f a0 0).bind fun t335 => (silversidelaw03_LabelRing.j0 k a0 a1 (t335 != 0))) else (silversidelaw03_LabelRing.j0 k a0 a1 true))) else (silversidelaw03_LabelRing.j0 k a0 a1 true))))) else (silversidelaw03_LabelRing.j0 k a0 a1 true))))) = some r := H
      have A8 := Aside0.mk A80; (try simp only [Int.toNat_natCast] at A8)
      clear A80
      replace H := Option.bind_eq_some_iff.mp H
      obtain ⟨t328, A90, H⟩ := H
      replace H : ((label_Mul.f a0 a1).bind fun t329 => ((label_Mul.f t329 a2).bind fun t330 => (if t328 = t330 then ((label_Mul.f a0 (Go.bits .xor .u8 a1 a2)).bind fun t331 => ((label_Mul.f a0 a1).bind fun t332 => ((label_Mul.f a0 a2).bind fun t333 => (if t331 = (Go.bits .xor .u8 t332 t333) then ((label_Mul.f a0 1).bind fun t334 => (if t334 = a0 then ((label_Mul.f a0 0).bind fun t335 => (silversidelaw03_LabelRing.j0 k a0 a1 (t335 != 0))) else (silversidelaw03_LabelRing.j0 k a0 a1 true))) else (silversidelaw03_LabelRing.j0 k a0 a1 true))))) else (silversidelaw03_LabelRing.j0 k a0 a1 true)))) = some r := H
      have A9 := Aside0.mk A90; (try simp only [Int.toNat_natCast] at A9)
      clear A90
      replace H := Option.bind_eq_some_iff.mp H
      obtain ⟨t329, A100, H⟩ := H
      replace H : ((label_Mul.f t329 a2).bind fun t330 => (if t328 = t330 then ((label_Mul.f a0 (Go.bits .xor .u8 a1 a2)).bind fun t331 => ((label_Mul.f a0 a1).bind fun t332 => ((label_Mul.f a0 a2).bind fun t333 => (if t331 = (Go.bits .xor .u8 t332 t333) then ((label_Mul.f a0 1).bind fun t334 => (if t334 = a0 then ((label_Mul.f a0 0).bind fun t335 => (silversidelaw03_LabelRing.j0 k a0 a1 (t335 != 0))) else (silversidelaw03_LabelRing.j0 k a0 a1 true))) else (silversidelaw03_LabelRing.j0 k a0 a1 true))))) else (silversidelaw03_LabelRing.j0 k a0 a1 true))) = some r := H
      have A10 := Aside0.mk A100; (try simp only [Int.toNat_natCast] at A10)
      clear A100
      replace H := Option.bind_eq_some_iff.mp H
      obtain ⟨t330, A110, H⟩ := H
      replace H : (if t328 = t330 then ((label_Mul.f a0 (Go.bits .xor .u8 a1 a2)).bind fun t331 => ((label_Mul.f a0 a1).bind fun t332 => ((label_Mul.f a0 a2).bind fun t333 => (if t331 = (Go.bits .xor .u8 t332 t333) then ((label_Mul.f a0 1).bind fun t334 => (if t334 = a0 then ((label_Mul.f a0 0).bind fun t335 => (silversidelaw03_LabelRing.j0 k a0 a1 (t335 != 0))) else (silversidelaw03_LabelRing.j0 k a0 a1 true))) else (silversidelaw03_LabelRing.j0 k a0 a1 true))))) else (silversidelaw03_LabelRing.j0 k a0 a1 true)) = some r := H
      have A11 := Aside0.mk A110; (try simp only [Int.toNat_natCast] at A11)
      clear A110
      by_cases c12 : t328 = t330
      · rw [if_pos c12] at H
        have c12b0 : (t328 == t330) = true := beq_iff_eq.mpr c12
        have c12b1 : (t328 != t330) = false := bne_eq_false_iff_eq.mpr c12
        clear c12
        replace H := Option.bind_eq_some_iff.mp H
        obtain ⟨t331, A130, H⟩ := H
        replace H : ((label_Mul.f a0 a1).bind fun t332 => ((label_Mul.f a0 a2).bind fun t333 => (if t331 = (Go.bits .xor .u8 t332 t333) then ((label_Mul.f a0 1).bind fun t334 => (if t334 = a0 then ((label_Mul.f a0 0).bind fun t335 => (silversidelaw03_LabelRing.j0 k a0 a1 (t335 != 0))) else (silversidelaw03_LabelRing.j0 k a0 a1 true))) else (silversidelaw03_LabelRing.j0 k a0 a1 true)))) = some r := H
        have A13 := Aside0.mk A130; (try simp only [Int.toNat_natCast] at A13)
        clear A130
        replace H := Option.bind_eq_some_iff.mp H
        obtain ⟨t332, A140, H⟩ := H
        replace H : ((label_Mul.f a0 a2).bind fun t333 => (if t331 = (Go.bits .xor .u8 t332 t333) then ((label_Mul.f a0 1).bind fun t334 => (if t334 = a0 then ((label_Mul.f a0 0).bind fun t335 => (silversidelaw03_LabelRing.j0 k a0 a1 (t335 != 0))) else (silversidelaw03_LabelRing.j0 k a0 a1 true))) else (silversidelaw03_LabelRing.j0 k a0 a1 true))) = some r := H
        have A14 := Aside0.mk A140; (try simp only [Int.toNat_natCast] at A14); have HQA14 := hid (Option.some.inj (A10.out.symm.trans A14.out))
        clear A140
        replace H := Option.bind_eq_some_iff.mp H
        obtain ⟨t333, A150, H⟩ := H
        replace H : (if t331 = (Go.bits .xor .u8 t332 t333) then ((label_Mul.f a0 1).bind fun t334 => (if t334 = a0 then ((label_Mul.f a0 0).bind fun t335 => (silversidelaw03_LabelRing.j0 k a0 a1 (t335 != 0))) else (silversidelaw03_LabelRing.j0 k a0 a1 true))) else (silversidelaw03_LabelRing.j0 k a0 a1 true)) = some r := H
        have A15 := Aside0.mk A150; (try simp only [Int.toNat_natCast] at A15)
        clear A150
        by_cases c16 : t331 = (Go.bits .xor .u8 t332 t333)
        · rw [if_pos c16] at H
          have c16b0 : (t331 == (Go.bits .xor .u8 t332 t333)) = true := beq_iff_eq.mpr c16; (try simp only [← HQA14.out] at c16b0)
          have c16b1 : (t331 != (Go.bits .xor .u8 t332 t333)) = false := bne_eq_false_iff_eq.mpr c16; (try simp only [← HQA14.out] at c16b1)
          clear c16
          replace H := Option.bind_eq_some_iff.mp H
          obtain ⟨t334, A170, H⟩ := H
          replace H : (if t334 = a0 then ((label_Mul.f a0 0).bind fun t335 => (silversidelaw03_LabelRing.j0 k a0 a1 (t335 != 0))) else (silversidelaw03_LabelRing.j0 k a0 a1 true)) = some r := H
          have A17 := Aside0.mk A170; (try simp only [Int.toNat_natCast] at A17)
          clear A170
          by_cases c18 : t334 = a0
          · rw [if_pos c18] at H
            have c18b0 : (t334 == a0) = true := beq_iff_eq.mpr c18
            have c18b1 : (t334 != a0) = false := bne_eq_false_iff_eq.mpr c18
            clear c18
            replace H := Option.bind_eq_some_iff.mp H
            obtain ⟨t335, A190, H⟩ := H
            replace H : (silversidelaw03_LabelRing.j0 k a0 a1 (t335 != 0)) = some r := H
            have A19 := Aside0.mk A190; (try simp only [Int.toNat_natCast] at A19)
            clear A190
            have H' := Aside0.mk H
            clear H
            go_wp2_with (first | ((with_reducible refine gate_callee (f := 28) rfl ?_); refine goesL_ (some 11) rfl rfl Try.func28 (by kernel_rfl) rfl #[.int .u8 a0, .int .u8 a1] rfl (by (try simp only [List.map_toArray, List.map_cons, List.map_nil]); first | done | rfl | (simp only [List.length_drop, List.length_take]; rfl)) ?_; (with_reducible refine (label_Mul.calls a0 a1 t325 _ A5.out).mono ?_); rintro e w20 ⟨rfl, hb⟩; refine ⟨_, rfl, ?_⟩; have n0_ := Aside0.mk (below_step (by repeat (first | (with_reducible first | exact HB.out | apply below_alloc | apply pw_below_drewN | apply below_drew1) | exact HB.out)) hb); clear HB; have HB := n0_; clear n0_; (try clear hb); (try clear hb2); (try clear hk); (try clear hi)) | ((with_reducible refine gate_callee (f := 28) rfl ?_); refine goesL_ (some 14) rfl rfl Try.func28 (by kernel_rfl) rfl #[.int .u8 a1, .int .u8 a0] rfl (by (try simp only [List.map_toArray, List.map_cons, List.map_nil]); first | done | rfl | (simp only [List.length_drop, List.length_take]; rfl)) ?_; (with_reducible refine (label_Mul.calls a1 a0 t326 _ A6.out).mono ?_); rintro e w21 ⟨rfl, hb⟩; refine ⟨_, rfl, ?_⟩; have n0_ := Aside0.mk (below_step (by repeat (first | (with_reducible first | exact HB.out | apply below_alloc | apply pw_below_drewN | apply below_drew1) | exact HB.out)) hb); clear HB; have HB := n0_; clear n0_; (try clear hb); (try clear hb2); (try clear hk); (try clear hi)) | (go_at_call 28; (with_reducible refine (label_Mul.calls a1 a2 t327 _ A8.out).mono ?_); rintro e w22 ⟨rfl, hb⟩; have n0_ := Aside0.mk (below_step (by repeat (first | (with_reducible first | exact HB.out | apply below_alloc | apply pw_below_drewN | apply below_drew1) | exact HB.out)) hb); clear HB; have HB := n0_; clear n0_; (try clear hb); (try clear hb2); (try clear hk); (try clear hi)) | (go_at_call 28; (with_reducible refine (label_Mul.calls a0 t327 t328 _ A9.out).mono ?_); rintro e w23 ⟨rfl, hb⟩; have n0_ := Aside0.mk (below_step (by repeat (first | (with_reducible first | exact HB.out | apply below_alloc | apply pw_below_drewN | apply below_drew1) | exact HB.out)) hb); clear HB; have HB := n0_; clear n0_; (try clear hb); (try clear hb2); (try clear hk); (try clear hi)) | (go_at_call 28; (with_reducible refine (label_Mul.calls a0 a1 t329 _ A10.out).mono ?_); rintro e w24 ⟨rfl, hb⟩; have n0_ := Aside0.mk (below_step (by repeat (first | (with_reducible first | exact HB.out | apply below_alloc | apply pw_below_drewN | apply below_drew1) | exact HB.out)) hb); clear HB; have HB := n0_; clear n0_; (try clear hb); (try clear hb2); (try clear hk); (try clear hi)) | (go_at_call 28; (with_reducible refine (label_Mul.calls t329 a2 t330 _ A11.out).mono ?_); rintro e w25 ⟨rfl, hb⟩; have n0_ := Aside0.mk (below_step (by repeat (first | (with_reducible first | exact HB.out | apply below_alloc | apply pw_below_drewN | apply below_drew1) | exact HB.out)) hb); clear HB; have HB := n0_; clear n0_; (try clear hb); (try clear hb2); (try clear hk); (try clear hi)) | (go_at_call 28; (with_reducible refine (label_Mul.calls a0 (Go.bits .xor .u8 a1 a2) t331 _ A13.out).mono ?_); rintro e w26 ⟨rfl, hb⟩; have n0_ := Aside0.mk (below_step (by repeat (first | (with_reducible first | exact HB.out | apply below_alloc | apply pw_below_drewN | apply below_drew1) | exact HB.out)) hb); clear HB; have HB := n0_; clear n0_; (try clear hb); (try clear hb2); (try clear hk); (try clear hi)) | (go_at_call 28; (with_reducible refine (label_Mul.calls a0 a1 t332 _ A14.out).mono ?_); rintro e w27 ⟨rfl, hb⟩; have n0_ := Aside0.mk (below_step (by repeat (first | (with_reducible first | exact HB.out | apply below_alloc | apply pw_below_drewN | apply below_drew1) | exact HB.out)) hb); clear HB; have HB := n0_; clear n0_; (try clear hb); (try clear hb2); (try clear hk); (try clear hi)) | (go_at_call 28; (with_reducible refine (label_Mul.calls a0 a2 t333 _ A15.out).mono ?_); rintro e w28 ⟨rfl, hb⟩; have n0_ := Aside0.mk (below_step (by repeat (first | (with_reducible first | exact HB.out | apply below_alloc | apply pw_below_drewN | apply below_drew1) | exact HB.out)) hb); clear HB; have HB := n0_; clear n0_; (try clear hb); (try clear hb2); (try clear hk); (try clear hi)) | (go_at_call 28; (with_reducible refine (label_Mul.calls a0 1 t334 _ A17.out).mono ?_); rintro e w29 ⟨rfl, hb⟩; have n0_ := Aside0.mk (below_step (by repeat (first | (with_reducible first | exact HB.out | apply below_alloc | apply pw_below_drewN | apply below_drew1) | exact HB.out)) hb); clear HB; have HB := n0_; clear n0_; (try clear hb); (try clear hb2); (try clear hk); (try clear hi)) | (go_at_call 28; (with_reducible refine (label_Mul.calls a0 0 t335 _ A19.out).mono ?_); rintro e w30 ⟨rfl, hb⟩; have n0_ := Aside0.mk (below_step (by repeat (first | (with_reducible first | exact HB.out | apply below_alloc | apply pw_below_drewN | apply below_drew1) | exact HB.out)) hb); clear HB; have HB := n0_; clear n0_; (try clear hb); (try clear hb2); (try clear hk); (try clear hi)))
            go_meet
            case rel => exact ⟨_, ((t335 != 0)), (by first | rfl | (simp; done) | (simp [*]; done)), H', ⟨by first | omega | exact Nat.le_refl _⟩, ⟨by repeat (first | (with_reducible first | exact HB.out | apply below_alloc | apply pw_below_drewN | apply below_drew1) | exact HB.out)⟩⟩
          · rw [if_neg c18] at H
            have c18b0 : (t334 == a0) = false := beq_eq_false_iff_ne.mpr c18
            have c18b1 : (t334 != a0) = true := bne_iff_ne.mpr c18
            have H' := Aside0.mk H
            clear H
            go_wp2_with (first | ((with_reducible refine gate_callee (f := 28) rfl ?_); refine goesL_ (some 11) rfl rfl Try.func28 (by kernel_rfl) rfl #[.int .u8 a0, .int .u8 a1] rfl (by (try simp only [List.map_toArray, List.map_cons, List.map_nil]); first | done | rfl | (simp only [List.length_drop, List.length_take]; rfl)) ?_; (with_reducible refine (label_Mul.calls a0 a1 t325 _ A5.out).mono ?_); rintro e w31 ⟨rfl, hb⟩; refine ⟨_, rfl, ?_⟩; have n0_ := Aside0.mk (below_step (by repeat (first | (with_reducible first | exact HB.out | apply below_alloc | apply pw_below_drewN | apply below_drew1) | exact HB.out)) hb); clear HB; have HB := n0_; clear n0_; (try clear hb); (try clear hb2); (try clear hk); (try clear hi)) | ((with_reducible refine gate_callee (f := 28) rfl ?_); refine goesL_ (some 14) rfl rfl Try.func28 (by kernel_rfl) rfl #[.int .u8 a1, .int .u8 a0] rfl (by (try simp only [List.map_toArray, List.map_cons, List.map_nil]); first | done | rfl | (simp only [List.length_drop, List.length_take]; rfl)) ?_; (with_reducible refine (label_Mul.calls a1 a0 t326 _ A6.out).mono ?_); rintro e w32 ⟨rfl, hb⟩; refine ⟨_, rfl, ?_⟩; have n0_ := Aside0.mk (below_step (by repeat (first | (with_reducible first | exact HB.out | apply below_alloc | apply pw_below_drewN | apply below_drew1) | exact HB.out)) hb); clear HB; have HB := n0_; clear n0_; (try clear hb); (try clear hb2); (try clear hk); (try clear hi)) | (go_at_call 28; (with_reducible refine (label_Mul.calls a1 a2 t327 _ A8.out).mono ?_); rintro e w33 ⟨rfl, hb⟩; have n0_ := Aside0.mk (below_step (by repeat (first | (with_reducible first | exact HB.out | apply below_alloc | apply pw_below_drewN | apply below_drew1) | exact HB.out)) hb); clear HB; have HB := n0_; clear n0_; (try clear hb); (try clear hb2); (try clear hk); (try clear hi)) | (go_at_call 28; (with_reducible refine (label_Mul.calls a0 t327 t328 _ A9.out).mono ?_); rintro e w34 ⟨rfl, hb⟩; have n0_ := Aside0.mk (below_step (by repeat (first | (with_reducible first | exact HB.out | apply below_alloc | apply pw_below_drewN | apply below_drew1) | exact HB.out)) hb); clear HB; have HB := n0_; clear n0_; (try clear hb); (try clear hb2); (try clear hk); (try clear hi)) | (go_at_call 28; (with_reducible refine (label_Mul.calls a0 a1 t329 _ A10.out).mono ?_); rintro e w35 ⟨rfl, hb⟩; have n0_ := Aside0.mk (below_step (by repeat (first | (with_reducible first | exact HB.out | apply below_alloc | apply pw_below_drewN | apply below_drew1) | exact HB.out)) hb); clear HB; have HB := n0_; clear n0_; (try clear hb); (try clear hb2); (try clear hk); (try clear hi)) | (go_at_call 28; (with_reducible refine (label_Mul.calls t329 a2 t330 _ A11.out).mono ?_); rintro e w36 ⟨rfl, hb⟩; have n0_ := Aside0.mk (below_step (by repeat (first | (with_reducible first | exact HB.out | apply below_alloc | apply pw_below_drewN | apply below_drew1) | exact HB.out)) hb); clear HB; have HB := n0_; clear n0_; (try clear hb); (try clear hb2); (try clear hk); (try clear hi)) | (go_at_call 28; (with_reducible refine (label_Mul.calls a0 (Go.bits .xor .u8 a1 a2) t331 _ A13.out).mono ?_); rintro e w37 ⟨rfl, hb⟩; have n0_ := Aside0.mk (below_step (by repeat (first | (with_reducible first | exact HB.out | apply below_alloc | apply pw_below_drewN | apply below_drew1) | exact HB.out)) hb); clear HB; have HB := n0_; clear n0_; (try clear hb); (try clear hb2); (try clear hk); (try clear hi)) | (go_at_call 28; (with_reducible refine (label_Mul.calls a0 a1 t332 _ A14.out).mono ?_); rintro e w38 ⟨rfl, hb⟩; have n0_ := Aside0.mk (below_step (by repeat (first | (with_reducible first | exact HB.out | apply below_alloc | apply pw_below_drewN | apply below_drew1) | exact HB.out)) hb); clear HB; have HB := n0_; clear n0_; (try clear hb); (try clear hb2); (try clear hk); (try clear hi)) | (go_at_call 28; (with_reducible refine (label_Mul.calls a0 a2 t333 _ A15.out).mono ?_); rintro e w39 ⟨rfl, hb⟩; have n0_ := Aside0.mk (below_step (by repeat (first | (with_reducible first | exact HB.out | apply below_alloc | apply pw_below_drewN | apply below_drew1) | exact HB.out)) hb); clear HB; have HB := n0_; clear n0_; (try clear hb); (try clear hb2); (try clear hk); (try clear hi)) | (go_at_call 28; (with_reducible refine (label_Mul.calls a0 1 t334 _ A17.out).mono ?_); rintro e w40 ⟨rfl, hb⟩; have n0_ := Aside0.mk (below_step (by repeat (first | (with_reducible first | exact HB.out | apply below_alloc | apply pw_below_drewN | apply below_drew1) | exact HB.out)) hb); clear HB; have HB := n0_; clear n0_; (try clear hb); (try clear hb2); (try clear hk); (try clear hi)))
            go_meet
            case rel => exact ⟨_, (true), (by first | rfl | (simp; done) | (simp [*]; done)), H', ⟨by first | omega | exact Nat.le_refl _⟩, ⟨by repeat (first | (with_reducible first | exact HB.out | apply below_alloc | apply pw_below_drewN | apply below_drew1) | exact HB.out)⟩⟩
        · rw [if_neg c16] at H
          have c16b0 : (t331 == (Go.bits .xor .u8 t332 t333)) = false := beq_eq_false_iff_ne.mpr c16; (try simp only [← HQA14.out] at c16b0)
          have c16b1 : (t331 != (Go.bits .xor .u8 t332 t333)) = true := bne_iff_ne.mpr c16; (try simp only [← HQA14.out] at c16b1)
          have H' := Aside0.mk H
          clear H
          go_wp2_with (first | ((with_reducible refine gate_callee (f := 28) rfl ?_); refine goesL_ (some 11) rfl rfl Try.func28 (by kernel_rfl) rfl #[.int .u8 a0, .int .u8 a1] rfl (by (try simp only [List.map_toArray, List.map_cons, List.map_nil]); first | done | rfl | (simp only [List.length_drop, List.length_take]; rfl)) ?_; (with_reducible refine (label_Mul.calls a0 a1 t325 _ A5.out).mono ?_); rintro e w41 ⟨rfl, hb⟩; refine ⟨_, rfl, ?_⟩; have n0_ := Aside0.mk (below_step (by repeat (first | (with_reducible first | exact HB.out | apply below_alloc | apply pw_below_drewN | apply below_drew1) | exact HB.out)) hb); clear HB; have HB := n0_; clear n0_; (try clear hb); (try clear hb2); (try clear hk); (try clear hi)) | ((with_reducible refine gate_callee (f := 28) rfl ?_); refine goesL_ (some 14) rfl rfl Try.func28 (by kernel_rfl) rfl #[.int .u8 a1, .int .u8 a0] rfl (by (try simp only [List.map_toArray, List.map_cons, List.map_nil]); first | done | rfl | (simp only [List.length_drop, List.length_take]; rfl)) ?_; (with_reducible refine (label_Mul.calls a1 a0 t326 _ A6.out).mono ?_); rintro e w42 ⟨rfl, hb⟩; refine ⟨_, rfl, ?_⟩; have n0_ := Aside0.mk (below_step (by repeat (first | (with_reducible first | exact HB.out | apply below_alloc | apply pw_below_drewN | apply below_drew1) | exact HB.out)) hb); clear HB; have HB := n0_; clear n0_; (try clear hb); (try clear hb2); (try clear hk); (try clear hi)) | (go_at_call 28; (with_reducible refine (label_Mul.calls a1 a2 t327 _ A8.out).mono ?_); rintro e w43 ⟨rfl, hb⟩; have n0_ := Aside0.mk (below_step (by repeat (first | (with_reducible first | exact HB.out | apply below_alloc | apply pw_below_drewN | apply below_drew1) | exact HB.out)) hb); clear HB; have HB := n0_; clear n0_; (try clear hb); (try clear hb2); (try clear hk); (try clear hi)) | (go_at_call 28; (with_reducible refine (label_Mul.calls a0 t327 t328 _ A9.out).mono ?_); rintro e w44 ⟨rfl, hb⟩; have n0_ := Aside0.mk (below_step (by repeat (first | (with_reducible first | exact HB.out | apply below_alloc | apply pw_below_drewN | apply below_drew1) | exact HB.out)) hb); clear HB; have HB := n0_; clear n0_; (try clear hb); (try clear hb2); (try clear hk); (try clear hi)) | (go_at_call 28; (with_reducible refine (label_Mul.calls a0 a1 t329 _ A10.out).mono ?_); rintro e w45 ⟨rfl, hb⟩; have n0_ := Aside0.mk (below_step (by repeat (first | (with_reducible first | exact HB.out | apply below_alloc | apply pw_below_drewN | apply below_drew1) | exact HB.out)) hb); clear HB; have HB := n0_; clear n0_; (try clear hb); (try clear hb2); (try clear hk); (try clear hi)) | (go_at_call 28; (with_reducible refine (label_Mul.calls t329 a2 t330 _ A11.out).mono ?_); rintro e w46 ⟨rfl, hb⟩; have n0_ := Aside0.mk (below_step (by repeat (first | (with_reducible first | exact HB.out | apply below_alloc | apply pw_below_drewN | apply below_drew1) | exact HB.out)) hb); clear HB; have HB := n0_; clear n0_; (try clear hb); (try clear hb2); (try clear hk); (try clear hi)) | (go_at_call 28; (with_reducible refine (label_Mul.calls a0 (Go.bits .xor .u8 a1 a2) t331 _ A13.out).mono ?_); rintro e w47 ⟨rfl, hb⟩; have n0_ := Aside0.mk (below_step (by repeat (first | (with_reducible first | exact HB.out | apply below_alloc | apply pw_below_drewN | apply below_drew1) | exact HB.out)) hb); clear HB; have HB := n0_; clear n0_; (try clear hb); (try clear hb2); (try clear hk); (try clear hi)) | (go_at_call 28; (with_reducible refine (label_Mul.calls a0 a1 t332 _ A14.out).mono ?_); rintro e w48 ⟨rfl, hb⟩; have n0_ := Aside0.mk (below_step (by repeat (first | (with_reducible first | exact HB.out | apply below_alloc | apply pw_below_drewN | apply below_drew1) | exact HB.out)) hb); clear HB; have HB := n0_; clear n0_; (try clear hb); (try clear hb2); (try clear hk); (try clear hi)) | (go_at_call 28; (with_reducible refine (label_Mul.calls a0 a2 t333 _ A15.out).mono ?_); rintro e w49 ⟨rfl, hb⟩; have n0_ := Aside0.mk (below_step (by repeat (first | (with_reducible first | exact HB.out | apply below_alloc | apply pw_below_drewN | apply below_drew1) | exact HB.out)) hb); clear HB; have HB := n0_; clear n0_; (try clear hb); (try clear hb2); (try clear hk); (try clear hi)))
          go_meet
          case rel => exact ⟨_, (true), (by first | rfl | (simp; done) | (simp [*]; done)), H', ⟨by first | omega | exact Nat.le_refl _⟩, ⟨by repeat (first | (with_reducible first | exact HB.out | apply below_alloc | apply pw_below_drewN | apply below_drew1) | exact HB.out)⟩⟩
      · rw [if_neg c12] at H
        have c12b0 : (t328 == t330) = false := beq_eq_false_iff_ne.mpr c12
        have c12b1 : (t328 != t330) = true := bne_iff_ne.mpr c12
        have H' := Aside0.mk H
        clear H
        go_wp2_with (first | ((with_reducible refine gate_callee (f := 28) rfl ?_); refine goesL_ (some 11) rfl rfl Try.func28 (by kernel_rfl) rfl #[.int .u8 a0, .int .u8 a1] rfl (by (try simp only [List.map_toArray, List.map_cons, List.map_nil]); first | done | rfl | (simp only [List.length_drop, List.length_take]; rfl)) ?_; (with_reducible refine (label_Mul.calls a0 a1 t325 _ A5.out).mono ?_); rintro e w50 ⟨rfl, hb⟩; refine ⟨_, rfl, ?_⟩; have n0_ := Aside0.mk (below_step (by repeat (first | (with_reducible first | exact HB.out | apply below_alloc | apply pw_below_drewN | apply below_drew1) | exact HB.out)) hb); clear HB; have HB := n0_; clear n0_; (try clear hb); (try clear hb2); (try clear hk); (try clear hi)) | ((with_reducible refine gate_callee (f := 28) rfl ?_); refine goesL_ (some 14) rfl rfl Try.func28 (by kernel_rfl) rfl #[.int .u8 a1, .int .u8 a0] rfl (by (try simp only [List.map_toArray, List.map_cons, List.map_nil]); first | done | rfl | (simp only [List.length_drop, List.length_take]; rfl)) ?_; (with_reducible refine (label_Mul.calls a1 a0 t326 _ A6.out).mono ?_); rintro e w51 ⟨rfl, hb⟩; refine ⟨_, rfl, ?_⟩; have n0_ := Aside0.mk (below_step (by repeat (first | (with_reducible first | exact HB.out | apply below_alloc | apply pw_below_drewN | apply below_drew1) | exact HB.out)) hb); clear HB; have HB := n0_; clear n0_; (try clear hb); (try clear hb2); (try clear hk); (try clear hi)) | (go_at_call 28; (with_reducible refine (label_Mul.calls a1 a2 t327 _ A8.out).mono ?_); rintro e w52 ⟨rfl, hb⟩; have n0_ := Aside0.mk (below_step (by repeat (first | (with_reducible first | exact HB.out | apply below_alloc | apply pw_below_drewN | apply below_drew1) | exact HB.out)) hb); clear HB; have HB := n0_; clear n0_; (try clear hb); (try clear hb2); (try clear hk); (try clear hi)) | (go_at_call 28; (with_reducible refine (label_Mul.calls a0 t327 t328 _ A9.out).mono ?_); rintro e w53 ⟨rfl, hb⟩; have n0_ := Aside0.mk (below_step (by repeat (first | (with_reducible first | exact HB.out | apply below_alloc | apply pw_below_drewN | apply below_drew1) | exact HB.out)) hb); clear HB; have HB := n0_; clear n0_; (try clear hb); (try clear hb2); (try clear hk); (try clear hi)) | (go_at_call 28; (with_reducible refine (label_Mul.calls a0 a1 t329 _ A10.out).mono ?_); rintro e w54 ⟨rfl, hb⟩; have n0_ := Aside0.mk (below_step (by repeat (first | (with_reducible first | exact HB.out | apply below_alloc | apply pw_below_drewN | apply below_drew1) | exact HB.out)) hb); clear HB; have HB := n0_; clear n0_; (try clear hb); (try clear hb2); (try clear hk); (try clear hi)) | (go_at_call 28; (with_reducible refine (label_Mul.calls t329 a2 t330 _ A11.out).mono ?_); rintro e w55 ⟨rfl, hb⟩; have n0_ := Aside0.mk (below_step (by repeat (first | (with_reducible first | exact HB.out | apply below_alloc | apply pw_below_drewN | apply below_drew1) | exact HB.out)) hb); clear HB; have HB := n0_; clear n0_; (try clear hb); (try clear hb2); (try clear hk); (try clear hi)))
        go_meet
        case rel => exact ⟨_, (true), (by first | rfl | (simp; done) | (simp [*]; done)), H', ⟨by first | omega | exact Nat.le_refl _⟩, ⟨by repeat (first | (with_reducible first | exact HB.out | apply below_alloc | apply pw_below_drewN | apply below_drew1) | exact HB.out)⟩⟩
    · rw [if_neg c7] at H
      have c7b0 : (t325 == t326) = false := beq_eq_false_iff_ne.mpr c7
      have c7b1 : (t325 != t326) = true := bne_iff_ne.mpr c7
      (first | rw [c7b0] | (simp only [i64_w, i32_w]; rw [c7b0]) | skip)
      have H' := Aside0.mk H
      clear H
      go_wp2_with (first | ((with_reducible refine gate_callee (f := 28) rfl ?_); refine goesL_ (some 11) rfl rfl Try.func28 (by kernel_rfl) rfl #[.int .u8 a0, .int .u8 a1] rfl (by (try simp only [List.map_toArray, List.map_cons, List.map_nil]); first | done | rfl | (simp only [List.length_drop, List.length_take]; rfl)) ?_; (with_reducible refine (label_Mul.calls a0 a1 t325 _ A5.out).mono ?_); rintro e w56 ⟨rfl, hb⟩; refine ⟨_, rfl, ?_⟩; have n0_ := Aside0.mk (below_step (by repeat (first | (with_reducible first | exact HB.out | apply below_alloc | apply pw_below_drewN | apply below_drew1) | exact HB.out)) hb); clear HB; have HB := n0_; clear n0_; (try clear hb); (try clear hb2); (try clear hk); (try clear hi)) | ((with_reducible refine gate_callee (f := 28) rfl ?_); refine goesL_ (some 14) rfl rfl Try.func28 (by kernel_rfl) rfl #[.int .u8 a1, .int .u8 a0] rfl (by (try simp only [List.map_toArray, List.map_cons, List.map_nil]); first | done | rfl | (simp only [List.length_drop, List.length_take]; rfl)) ?_; (with_reducible refine (label_Mul.calls a1 a0 t326 _ A6.out).mono ?_); rintro e w57 ⟨rfl, hb⟩; refine ⟨_, rfl, ?_⟩; have n0_ := Aside0.mk (below_step (by repeat (first | (with_reducible first | exact HB.out | apply below_alloc | apply pw_below_drewN | apply below_drew1) | exact HB.out)) hb); clear HB; have HB := n0_; clear n0_; (try clear hb); (try clear hb2); (try clear hk); (try clear hi)))
      go_meet
      case rel => exact ⟨_, (true), (by first | rfl | (simp; done) | (simp [*]; done)), H', ⟨by first | omega | exact Nat.le_refl _⟩, ⟨by repeat (first | (with_reducible first | exact HB.out | apply below_alloc | apply pw_below_drewN | apply below_drew1) | exact HB.out)⟩⟩
  case rest =>
    clear HC4
    try clear c1
    try clear c2
    try clear p2
    try clear c7
    try clear c7b0
    try clear c7b1
    try clear c10
    try clear c12
    try clear c12b0
    try clear c12b1
    try clear c16
    try clear c16b0
    try clear c16b1
    try clear c18
    try clear c18b0
    try clear c18b1
    try clear c28
    obtain ⟨kq, x54_3, rfl, HA, HJ3, HB⟩ := hcut
    cases kq with
    | zero => exact absurd HA.out (by simp [silversidelaw03_LabelRing.j0])
    | succ kj3 =>
      have H := HA.out
      clear HA
      simp only [silversidelaw03_LabelRing.j0] at H
      by_cases c58 : x54_3 = true
      · subst c58
        have H1 : (some false) = some r := by rw [if_pos rfl] at H; exact H
        clear H
        have H := H1
        clear H1
        obtain rfl := Option.some.inj H
        go_wp2
        go_ret
        exact ⟨by first | rfl | (simp [errW_none, errW_some] <;> rfl) | (simp [*, errW_none, errW_some] <;> rfl), by repeat (first | (with_reducible first | exact HB.out | apply below_alloc | apply pw_below_drewN | apply below_drew1) | exact HB.out)⟩
      · replace c58 := Bool.eq_false_iff.mpr c58
        subst c58
        have H1 : (if a1 = 0 then ((silversidelaw03_awake.f kj3).bind fun t336 => (some t336)) else ((label_Inverse.f a1).bind fun bt337 => (if bt337.2 = 0 then ((label_Mul.f a0 a1).bind fun t339 => ((label_Mul.f t339 bt337.1).bind fun t340 => (if t340 = a0 then ((silversidelaw03_awake.f kj3).bind fun t341 => (some t341)) else (some false)))) else (some false)))) = some r := by rw [if_neg (show ¬ (false = true) by decide)] at H; exact H
        clear H
        have H := H1
        clear H1
        by_cases c59 : a1 = 0
        · rw [if_pos c59] at H
          have c59b0 : (a1 == 0) = true := beq_iff_eq.mpr c59
          have c59b1 : (a1 != 0) = false := bne_eq_false_iff_eq.mpr c59
          clear c59
          replace H := Option.bind_eq_some_iff.mp H
          obtain ⟨t336, A600, H⟩ := H
          replace H : (some t336) = some r := H
          have A60 := Aside0.mk A600; (try simp only [Int.toNat_natCast] at A60)
          clear A600
          obtain rfl := Option.some.inj H
          go_wp2_with (first | ((with_reducible refine gate_callee (f := 16) rfl ?_); refine goesL_ (some 57) rfl rfl Try.func16 (by kernel_rfl) rfl #[] rfl (by (try simp only [List.map_toArray, List.map_cons, List.map_nil]); first | done | rfl | (simp only [List.length_drop, List.length_take]; rfl)) ?_; (with_reducible refine (silversidelaw03_awake.calls kj3  t336 _ A60.out).mono ?_); rintro e w61 ⟨rfl, hb⟩; refine ⟨_, rfl, ?_⟩; have n0_ := Aside0.mk (below_step (by repeat (first | (with_reducible first | exact HB.out | apply below_alloc | apply pw_below_drewN | apply below_drew1) | exact HB.out)) hb); clear HB; have HB := n0_; clear n0_; (try clear hb); (try clear hb2); (try clear hk); (try clear hi)))
          go_ret
          exact ⟨by first | rfl | (simp [errW_none, errW_some] <;> rfl) | (simp [*, errW_none, errW_some] <;> rfl), by repeat (first | (with_reducible first | exact HB.out | apply below_alloc | apply pw_below_drewN | apply below_drew1) | exact HB.out)⟩
        · rw [if_neg c59] at H
          have c59b0 : (a1 == 0) = false := beq_eq_false_iff_ne.mpr c59
          have c59b1 : (a1 != 0) = true := bne_iff_ne.mpr c59
          replace H := Option.bind_eq_some_iff.mp H
          obtain ⟨⟨t337, t338⟩, A620, H⟩ := H
          replace H : (if t338 = 0 then ((label_Mul.f a0 a1).bind fun t339 => ((label_Mul.f t339 t337).bind fun t340 => (if t340 = a0 then ((silversidelaw03_awake.f kj3).bind fun t341 => (some t341)) else (some false)))) else (some false)) = some r := H
          have A62 := Aside0.mk A620; (try simp only [Int.toNat_natCast] at A62)
          clear A620
          by_cases c63 : t338 = 0
          · rw [if_pos c63] at H
            have c63b0 : (t338 == 0) = true := beq_iff_eq.mpr c63
            have c63b1 : (t338 != 0) = false := bne_eq_false_iff_eq.mpr c63
            clear c63
            replace H := Option.bind_eq_some_iff.mp H
            obtain ⟨t339, A640, H⟩ := H
            replace H : ((label_Mul.f t339 t337).bind fun t340 => (if t340 = a0 then ((silversidelaw03_awake.f kj3).bind fun t341 => (some t341)) else (some false))) = some r := H
            have A64 := Aside0.mk A640; (try simp only [Int.toNat_natCast] at A64)
            clear A640
            replace H := Option.bind_eq_some_iff.mp H
            obtain ⟨t340, A650, H⟩ := H
            replace H : (if t340 = a0 then ((silversidelaw03_awake.f kj3).bind fun t341 => (some t341)) else (some false)) = some r := H
            have A65 := Aside0.mk A650; (try simp only [Int.toNat_natCast] at A65)
            clear A650
            by_cases c66 : t340 = a0
            · rw [if_pos c66] at H
              have c66b0 : (t340 == a0) = true := beq_iff_eq.mpr c66
              have c66b1 : (t340 != a0) = false := bne_eq_false_iff_eq.mpr c66
              clear c66
              replace H := Option.bind_eq_some_iff.mp H
              obtain ⟨t341, A670, H⟩ := H
              replace H : (some t341) = some r := H
              have A67 := Aside0.mk A670; (try simp only [Int.toNat_natCast] at A67)
              clear A670
              obtain rfl := Option.some.inj H
              go_wp2_with (first | ((with_reducible refine gate_callee (f := 27) rfl ?_); refine goesL_ (some 60) rfl rfl Try.func27 (by kernel_rfl) rfl #[.int .u8 a1] rfl (by (try simp only [List.map_toArray, List.map_cons, List.map_nil]); first | done | rfl | (simp only [List.length_drop, List.length_take]; rfl)) ?_; (with_reducible refine (label_Inverse.calls a1 t337 t338 _ A62.out).mono ?_); rintro e w68 ⟨rfl, hb⟩; refine ⟨_, rfl, ?_⟩; have n0_ := Aside0.mk (below_step (by repeat (first | (with_reducible first | exact HB.out | apply below_alloc | apply pw_below_drewN | apply below_drew1) | exact HB.out)) hb); clear HB; have HB := n0_; clear n0_; (try clear hb); (try clear hb2); (try clear hk); (try clear hi)) | (go_at_call 28; (with_reducible refine (label_Mul.calls a0 a1 t339 _ A64.out).mono ?_); rintro e w69 ⟨rfl, hb⟩; have n0_ := Aside0.mk (below_step (by repeat (first | (with_reducible first | exact HB.out | apply below_alloc | apply pw_below_drewN | apply below_drew1) | exact HB.out)) hb); clear HB; have HB := n0_; clear n0_; (try clear hb); (try clear hb2); (try clear hk); (try clear hi)) | (go_at_call 28; (with_reducible refine (label_Mul.calls t339 t337 t340 _ A65.out).mono ?_); rintro e w70 ⟨rfl, hb⟩; have n0_ := Aside0.mk (below_step (by repeat (first | (with_reducible first | exact HB.out | apply below_alloc | apply pw_below_drewN | apply below_drew1) | exact HB.out)) hb); clear HB; have HB := n0_; clear n0_; (try clear hb); (try clear hb2); (try clear hk); (try clear hi)) | (go_at_call 16; (with_reducible refine (silversidelaw03_awake.calls kj3  t341 _ A67.out).mono ?_); rintro e w71 ⟨rfl, hb⟩; have n0_ := Aside0.mk (below_step (by repeat (first | (with_reducible first | exact HB.out | apply below_alloc | apply pw_below_drewN | apply below_drew1) | exact HB.out)) hb); clear HB; have HB := n0_; clear n0_; (try clear hb); (try clear hb2); (try clear hk); (try clear hi)))
              go_ret
              exact ⟨by first | rfl | (simp [errW_none, errW_some] <;> rfl) | (simp [*, errW_none, errW_some] <;> rfl), by repeat (first | (with_reducible first | exact HB.out | apply below_alloc | apply pw_below_drewN | apply below_drew1) | exact HB.out)⟩
            · rw [if_neg c66] at H
              have c66b0 : (t340 == a0) = false := beq_eq_false_iff_ne.mpr c66
              have c66b1 : (t340 != a0) = true := bne_iff_ne.mpr c66
              obtain rfl := Option.some.inj H
              go_wp2_with (first | ((with_reducible refine gate_callee (f := 27) rfl ?_); refine goesL_ (some 60) rfl rfl Try.func27 (by kernel_rfl) rfl #[.int .u8 a1] rfl (by (try simp only [List.map_toArray, List.map_cons, List.map_nil]); first | done | rfl | (simp only [List.length_drop, List.length_take]; rfl)) ?_; (with_reducible refine (label_Inverse.calls a1 t337 t338 _ A62.out).mono ?_); rintro e w72 ⟨rfl, hb⟩; refine ⟨_, rfl, ?_⟩; have n0_ := Aside0.mk (below_step (by repeat (first | (with_reducible first | exact HB.out | apply below_alloc | apply pw_below_drewN | apply below_drew1) | exact HB.out)) hb); clear HB; have HB := n0_; clear n0_; (try clear hb); (try clear hb2); (try clear hk); (try clear hi)) | (go_at_call 28; (with_reducible refine (label_Mul.calls a0 a1 t339 _ A64.out).mono ?_); rintro e w73 ⟨rfl, hb⟩; have n0_ := Aside0.mk (below_step (by repeat (first | (with_reducible first | exact HB.out | apply below_alloc | apply pw_below_drewN | apply below_drew1) | exact HB.out)) hb); clear HB; have HB := n0_; clear n0_; (try clear hb); (try clear hb2); (try clear hk); (try clear hi)) | (go_at_call 28; (with_reducible refine (label_Mul.calls t339 t337 t340 _ A65.out).mono ?_); rintro e w74 ⟨rfl, hb⟩; have n0_ := Aside0.mk (below_step (by repeat (first | (with_reducible first | exact HB.out | apply below_alloc | apply pw_below_drewN | apply below_drew1) | exact HB.out)) hb); clear HB; have HB := n0_; clear n0_; (try clear hb); (try clear hb2); (try clear hk); (try clear hi)))
              go_ret
              exact ⟨by first | rfl | (simp [errW_none, errW_some] <;> rfl) | (simp [*, errW_none, errW_some] <;> rfl), by repeat (first | (with_reducible first | exact HB.out | apply below_alloc | apply pw_below_drewN | apply below_drew1) | exact HB.out)⟩
          · rw [if_neg c63] at H
            have c63b0 : (t338 == 0) = false := beq_eq_false_iff_ne.mpr c63
            have c63b1 : (t338 != 0) = true := bne_iff_ne.mpr c63
            obtain rfl := Option.some.inj H
            go_wp2_with (first | ((with_reducible refine gate_callee (f := 27) rfl ?_); refine goesL_ (some 60) rfl rfl Try.func27 (by kernel_rfl) rfl #[.int .u8 a1] rfl (by (try simp only [List.map_toArray, List.map_cons, List.map_nil]); first | done | rfl | (simp only [List.length_drop, List.length_take]; rfl)) ?_; (with_reducible refine (label_Inverse.calls a1 t337 t338 _ A62.out).mono ?_); rintro e w75 ⟨rfl, hb⟩; refine ⟨_, rfl, ?_⟩; have n0_ := Aside0.mk (below_step (by repeat (first | (with_reducible first | exact HB.out | apply below_alloc | apply pw_below_drewN | apply below_drew1) | exact HB.out)) hb); clear HB; have HB := n0_; clear n0_; (try clear hb); (try clear hb2); (try clear hk); (try clear hi)))
            go_ret
            exact ⟨by first | rfl | (simp [errW_none, errW_some] <;> rfl) | (simp [*, errW_none, errW_some] <;> rfl), by repeat (first | (with_reducible first | exact HB.out | apply below_alloc | apply pw_below_drewN | apply below_drew1) | exact HB.out)⟩

/-- THE ONE PURE STATEMENT of silversidelaw03_LabelRing: yours. -/
def silversidelaw03_LabelRing.Pure : Prop := ∀ (a0 : Int) (a1 : Int) (a2 : Int), (Lit.int .u8 a0).wf = true → (Lit.int .u8 a1).wf = true → (Lit.int .u8 a2).wf = true → ∃ k, silversidelaw03_LabelRing.f k a0 a1 a2 = some true
theorem silversidelaw03_LabelRing.walk (P : silversidelaw03_LabelRing.Pure) (a0 : Int) (a1 : Int) (a2 : Int) (w : World) (w0 : (Lit.int .u8 a0).wf = true) (w1 : (Lit.int .u8 a1).wf = true) (w2 : (Lit.int .u8 a2).wf = true) :
    Calls Try.prog 10 #[.int .u8 a0, .int .u8 a1, .int .u8 a2] w fun e w' => e = .returned (.bool true) ∧ Below w.heap.size w w' := by
  obtain ⟨k, h⟩ := P a0 a1 a2 w0 w1 w2
  refine (silversidelaw03_LabelRing.calls k a0 a1 a2 true w h).mono ?_
  rintro e w' ⟨rfl, hd⟩
  exact ⟨rfl, hd⟩

end Go.Proofs.Ytdgjanjoiabgfaa.Q
