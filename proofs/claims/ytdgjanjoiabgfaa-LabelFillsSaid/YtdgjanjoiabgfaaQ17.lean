-- written by a program of this session's (wip/hook.py: the kit's print, with functions proved by hand)
import Derived.Test.YtdgjanjoiabgfaaQ0
import Derived.Test.YtdgjanjoiabgfaaQ16
namespace Go.Proofs.Ytdgjanjoiabgfaa.Q
open Go.RowKit Go.Proofs.YtdgjanjoiabgfaaW.PrintWords Go.Proofs.YtdgjanjoiabgfaaW.PrintLast Go.Proofs.Ytdgjanjoiabgfaa.Hand Go.Proofs.YtdgjanjoiabgfaaW.PrintMore
attribute [local go_sem] max2_int min2_int max_two min_two max_three min_three max_four min_four   -- for this text's walks alone
set_option linter.unusedVariables false
set_option linter.unusedSimpArgs false

/-! ### silversidelaw03_fit: function 22 -/
def silversidelaw03_fit.j0 : Nat → ByteArray → Int → Int → Bool → Option (ByteArray × Int)
  | 0, _, _, _, _ => none
  | k + 1, x0, x1, x2, x13 => if x13 = true then ((silversidelaw03_mod.f x1 65).bind fun t255 => (if x0.toList = ([] : List UInt8) then (if 0 ≤ (mn 1 (mn x2 (wrap64 (255 - t255)))) then (if (mn 1 (mn x2 (wrap64 (255 - t255)))) ≤ 1 then (some ((⟨#[120]⟩ : ByteArray).extract 0 ((mn 1 (mn x2 (wrap64 (255 - t255)))) : Int).toNat, t255)) else (none)) else (none)) else (if 0 ≤ (mn (x0.size : Int) (mn x2 (wrap64 (255 - t255)))) then (if (mn (x0.size : Int) (mn x2 (wrap64 (255 - t255)))) ≤ (x0.size : Int) then (some (x0.extract 0 ((mn (x0.size : Int) (mn x2 (wrap64 (255 - t255)))) : Int).toNat, t255)) else (none)) else (none)))) else (if x0.toList = ([] : List UInt8) then (if 0 ≤ (mn 1 (mn x2 (wrap64 (255 - x1)))) then (if (mn 1 (mn x2 (wrap64 (255 - x1)))) ≤ 1 then (some ((⟨#[120]⟩ : ByteArray).extract 0 ((mn 1 (mn x2 (wrap64 (255 - x1)))) : Int).toNat, x1)) else (none)) else (none)) else (if 0 ≤ (mn (x0.size : Int) (mn x2 (wrap64 (255 - x1)))) then (if (mn (x0.size : Int) (mn x2 (wrap64 (255 - x1)))) ≤ (x0.size : Int) then (some (x0.extract 0 ((mn (x0.size : Int) (mn x2 (wrap64 (255 - x1)))) : Int).toNat, x1)) else (none)) else (none)))
def silversidelaw03_fit.f (k : Nat) (a0 : ByteArray) (a1 : Int) (a2 : Int) : Option (ByteArray × Int) := if a1 < 0 then (silversidelaw03_fit.j0 k a0 a1 a2 true) else (silversidelaw03_fit.j0 k a0 a1 a2 (decide (a1 > 64)))
theorem silversidelaw03_fit.mono_l : ∀ k, (∀ y0 y1 y2 y3, LeO (silversidelaw03_fit.j0 k y0 y1 y2 y3) (silversidelaw03_fit.j0 (k + 1) y0 y1 y2 y3))
  | 0 => fun _ _ _ _ r h => by simp [silversidelaw03_fit.j0] at h
  | k + 1 => by
    have ih0 := silversidelaw03_fit.mono_l k
    · intro y0 y1 y2 y3
      unfold silversidelaw03_fit.j0
      repeat' first
      | (with_reducible exact ih0 _ _ _ _)
      | (with_reducible exact LeO.refl _)
      | (with_reducible exact LeO.none _)
      | (with_reducible refine LeO.ite ?_ ?_)
      | (with_reducible refine LeO.bind ?_ (fun _ => ?_))
      | exact ih0 _ _ _ _
      | exact LeO.none _
      | refine LeO.ite ?_ ?_
      | refine LeO.bind ?_ (fun _ => ?_)
theorem silversidelaw03_fit.mono : ∀ a0 a1 a2 k, LeO (silversidelaw03_fit.f k a0 a1 a2) (silversidelaw03_fit.f (k + 1) a0 a1 a2) := by
  intro a0 a1 a2 k
  have ih0 := silversidelaw03_fit.mono_l k
  unfold silversidelaw03_fit.f
  repeat' first
      | (with_reducible exact ih0 _ _ _ _)
      | (with_reducible exact LeO.refl _)
      | (with_reducible exact LeO.none _)
      | (with_reducible refine LeO.ite ?_ ?_)
      | (with_reducible refine LeO.bind ?_ (fun _ => ?_))
      | exact ih0 _ _ _ _
      | exact LeO.none _
      | refine LeO.ite ?_ ?_
      | refine LeO.bind ?_ (fun _ => ?_)
set_option maxHeartbeats 8000000 in
set_option maxRecDepth 100000 in
theorem silversidelaw03_fit.calls (k : Nat) (a0 : ByteArray) (a1 : Int) (a2 : Int) (r1 : ByteArray) (r2 : Int) (w : World) (h : silversidelaw03_fit.f k a0 a1 a2 = some (r1, r2)) :
    Calls Try.prog 22 #[.string a0, .int .i64 a1, .int .i64 a2] w fun e w' => e = .returned (.tuple #[.string r1, .int .i64 r2]) ∧ Below w.heap.size w w' := by
  have HB := Aside0.mk (Below.refl w.heap.size w)
  have H : (if a1 < 0 then (silversidelaw03_fit.j0 k a0 a1 a2 true) else (silversidelaw03_fit.j0 k a0 a1 a2 (decide (a1 > 64)))) = some (r1, r2) := h
  clear h
  have HC4 := Aside0.mk H
  clear H
  go_enter Try.func22, Try.ntmps22
  go_upto_region 1 with (fail)
  go_cut [13] (fun v13 wc => ∃ (kq : Nat) (x13_3 : Bool), v13 = .bool x13_3 ∧ Aside0 (silversidelaw03_fit.j0 kq a0 a1 a2 x13_3 = some (r1, r2)) ∧ Aside0 (kq ≤ k) ∧ Aside0 (Below w.heap.size w wc))
  case first =>
    have H := HC4.out
    clear HC4
    by_cases c5 : a1 < 0
    · rw [if_pos c5] at H
      have c5b0 : decide (a1 < 0) = true := decide_eq_true c5
      clear c5
      (first | rw [c5b0] | (simp only [i64_w, i32_w]; rw [c5b0]) | skip)
      have H' := Aside0.mk H
      clear H
      go_wp2
      go_meet
      case rel => exact ⟨_, (true), (by first | rfl | (simp; done) | (simp [*]; done)), H', ⟨by first | omega | exact Nat.le_refl _⟩, ⟨by repeat (first | (with_reducible first | exact HB.out | apply below_alloc | apply pw_below_drewN | apply below_drew1) | exact HB.out)⟩⟩
    · rw [if_neg c5] at H
      have c5b0 : decide (a1 < 0) = false := decide_eq_false c5
      clear c5
      (first | rw [c5b0] | (simp only [i64_w, i32_w]; rw [c5b0]) | skip)
      have H' := Aside0.mk H
      clear H
      go_wp2
      go_meet
      case rel => exact ⟨_, (decide (a1 > 64)), (by first | rfl | (simp; done) | (simp [*]; done)), H', ⟨by first | omega | exact Nat.le_refl _⟩, ⟨by repeat (first | (with_reducible first | exact HB.out | apply below_alloc | apply pw_below_drewN | apply below_drew1) | exact HB.out)⟩⟩
  case rest =>
    clear HC4
    try clear c2
    try clear p2
    try clear c5
    try clear c5b0
    obtain ⟨kq, x13_3, rfl, HA, HJ3, HB⟩ := hcut
    cases kq with
    | zero => exact absurd HA.out (by simp [silversidelaw03_fit.j0])
    | succ kj3 =>
      have H := HA.out
      clear HA
      simp only [silversidelaw03_fit.j0] at H
      by_cases c6 : x13_3 = true
      · subst c6
        have H1 : ((silversidelaw03_mod.f a1 65).bind fun t255 => (if a0.toList = ([] : List UInt8) then (if 0 ≤ (mn 1 (mn a2 (wrap64 (255 - t255)))) then (if (mn 1 (mn a2 (wrap64 (255 - t255)))) ≤ 1 then (some ((⟨#[120]⟩ : ByteArray).extract 0 ((mn 1 (mn a2 (wrap64 (255 - t255)))) : Int).toNat, t255)) else (none)) else (none)) else (if 0 ≤ (mn (a0.size : Int) (mn a2 (wrap64 (255 - t255)))) then (if (mn (a0.size : Int) (mn a2 (wrap64 (255 - t255)))) ≤ (a0.size : Int) then (some (a0.extract 0 ((mn (a0.size : Int) (mn a2 (wrap64 (255 - t255)))) : Int).toNat, t255)) else (none)) else (none)))) = some (r1, r2) := by rw [if_pos rfl] at H; exact H
        clear H
        have H := H1
        clear H1
        replace H := Option.bind_eq_some_iff.mp H
        obtain ⟨t255, A70, H⟩ := H
        replace H : (if a0.toList = ([] : List UInt8) then (if 0 ≤ (mn 1 (mn a2 (wrap64 (255 - t255)))) then (if (mn 1 (mn a2 (wrap64 (255 - t255)))) ≤ 1 then (some ((⟨#[120]⟩ : ByteArray).extract 0 ((mn 1 (mn a2 (wrap64 (255 - t255)))) : Int).toNat, t255)) else (none)) else (none)) else (if 0 ≤ (mn (a0.size : Int) (mn a2 (wrap64 (255 - t255)))) then (if (mn (a0.size : Int) (mn a2 (wrap64 (255 - t255)))) ≤ (a0.size : Int) then (some (a0.extract 0 ((mn (a0.size : Int) (mn a2 (wrap64 (255 - t255)))) : Int).toNat, t255)) else (none)) else (none))) = some (r1, r2) := H
        have A7 := Aside0.mk A70; (try simp only [Int.toNat_natCast] at A7)
        clear A70
        by_cases c8 : a0.toList = ([] : List UInt8)
        · rw [if_pos c8] at H
          have c8b0 : (a0.toList == ([] : List UInt8)) = true := beq_iff_eq.mpr c8
          have c8b1 : (a0.toList != ([] : List UInt8)) = false := bne_eq_false_iff_eq.mpr c8
          clear c8
          obtain ⟨ji9, hji9⟩ : ∃ j_ : Int, (mn a2 (wrap64 (255 - t255))) = j_ := ⟨_, rfl⟩
          replace H : (if 0 ≤ (mn 1 (ji9)) then (if (mn 1 (ji9)) ≤ 1 then (some ((⟨#[120]⟩ : ByteArray).extract 0 ((mn 1 (ji9)) : Int).toNat, t255)) else (none)) else (none)) = some (r1, r2) := by first | (rw [hji9] at H; exact H) | (simp only [hji9] at H ⊢; exact H)
          (try rw [hji9] at A7)
          have hji9_ : (if (wrap64 (255 - t255)) < a2 then (wrap64 (255 - t255)) else a2) = ji9 := hji9
          obtain ⟨ji10, hji10⟩ : ∃ j_ : Int, (mn 1 (ji9)) = j_ := ⟨_, rfl⟩
          replace H : (if 0 ≤ (ji10) then (if (ji10) ≤ 1 then (some ((⟨#[120]⟩ : ByteArray).extract 0 ((ji10) : Int).toNat, t255)) else (none)) else (none)) = some (r1, r2) := by first | (rw [hji10] at H; exact H) | (simp only [hji10] at H ⊢; exact H)
          (try rw [hji10] at A7)
          have hji10_ : (if (ji9) < 1 then (ji9) else 1) = ji10 := hji10
          by_cases c11 : 0 ≤ (ji10)
          · rw [if_pos c11] at H
            have c11b0 := eq_true c11
            have c11b1 : decide (0 ≤ (ji10)) = true := decide_eq_true c11
            clear c11
            by_cases c12 : (ji10) ≤ 1
            · rw [if_pos c12] at H
              have c12b0 := eq_true c12
              have c12b1 : decide ((ji10) ≤ 1) = true := decide_eq_true c12
              clear c12
              simp only [Option.some.injEq, Prod.mk.injEq] at H
              obtain ⟨rfl, rfl⟩ := H
              go_wp2_with (first | ((with_reducible refine gate_callee (f := 25) rfl ?_); refine goesL_ (some 15) rfl rfl Try.func25 (by kernel_rfl) rfl #[.int .i64 a1, .int .i64 65] rfl (by (try simp only [List.map_toArray, List.map_cons, List.map_nil]); first | done | rfl | (simp only [List.length_drop, List.length_take]; rfl)) ?_; (with_reducible refine (silversidelaw03_mod.calls a1 65 t255 _ A7.out).mono ?_); rintro e w' ⟨rfl, ⟨nd, rfl⟩⟩; refine ⟨_, rfl, ?_⟩))
              go_ret2
              exact ⟨by first | rfl | (simp [errW_none, errW_some] <;> rfl) | (simp only [← hji9, ← hji10]; first | rfl | (simp [errW_none, errW_some] <;> rfl)) | (simp [*, errW_none, errW_some] <;> rfl), by repeat (first | (with_reducible first | exact HB.out | apply below_alloc | apply pw_below_drewN | apply below_drew1) | exact HB.out)⟩
            · rw [if_neg c12] at H
              exact absurd H (by simp)
          · rw [if_neg c11] at H
            exact absurd H (by simp)
        · rw [if_neg c8] at H
          have c8b0 : (a0.toList == ([] : List UInt8)) = false := beq_eq_false_iff_ne.mpr c8
          have c8b1 : (a0.toList != ([] : List UInt8)) = true := bne_iff_ne.mpr c8
          obtain ⟨ji13, hji13⟩ : ∃ j_ : Int, (mn a2 (wrap64 (255 - t255))) = j_ := ⟨_, rfl⟩
          replace H : (if 0 ≤ (mn (a0.size : Int) (ji13)) then (if (mn (a0.size : Int) (ji13)) ≤ (a0.size : Int) then (some (a0.extract 0 ((mn (a0.size : Int) (ji13)) : Int).toNat, t255)) else (none)) else (none)) = some (r1, r2) := by first | (rw [hji13] at H; exact H) | (simp only [hji13] at H ⊢; exact H)
          (try rw [hji13] at A7)
          have hji13_ : (if (wrap64 (255 - t255)) < a2 then (wrap64 (255 - t255)) else a2) = ji13 := hji13
          obtain ⟨ji14, hji14⟩ : ∃ j_ : Int, (mn (a0.size : Int) (ji13)) = j_ := ⟨_, rfl⟩
          replace H : (if 0 ≤ (ji14) then (if (ji14) ≤ (a0.size : Int) then (some (a0.extract 0 ((ji14) : Int).toNat, t255)) else (none)) else (none)) = some (r1, r2) := by first | (rw [hji14] at H; exact H) | (simp only [hji14] at H ⊢; exact H)
          (try rw [hji14] at A7)
          have hji14_ : (if (ji13) < (a0.size : Int) then (ji13) else (a0.size : Int)) = ji14 := hji14
          by_cases c15 : 0 ≤ (ji14)
          · rw [if_pos c15] at H
            have c15b0 := eq_true c15
            have c15b1 : decide (0 ≤ (ji14)) = true := decide_eq_true c15
            clear c15
            by_cases c16 : (ji14) ≤ (a0.size : Int)
            · rw [if_pos c16] at H
              have c16b0 := eq_true c16
              have c16b1 : decide ((ji14) ≤ (a0.size : Int)) = true := decide_eq_true c16
              clear c16
              simp only [Option.some.injEq, Prod.mk.injEq] at H
              obtain ⟨rfl, rfl⟩ := H
              go_wp2_with (first | ((with_reducible refine gate_callee (f := 25) rfl ?_); refine goesL_ (some 15) rfl rfl Try.func25 (by kernel_rfl) rfl #[.int .i64 a1, .int .i64 65] rfl (by (try simp only [List.map_toArray, List.map_cons, List.map_nil]); first | done | rfl | (simp only [List.length_drop, List.length_take]; rfl)) ?_; (with_reducible refine (silversidelaw03_mod.calls a1 65 t255 _ A7.out).mono ?_); rintro e w' ⟨rfl, ⟨nd, rfl⟩⟩; refine ⟨_, rfl, ?_⟩))
              go_ret2
              exact ⟨by first | rfl | (simp [errW_none, errW_some] <;> rfl) | (simp only [← hji13, ← hji14]; first | rfl | (simp [errW_none, errW_some] <;> rfl)) | (simp [*, errW_none, errW_some] <;> rfl), by repeat (first | (with_reducible first | exact HB.out | apply below_alloc | apply pw_below_drewN | apply below_drew1) | exact HB.out)⟩
            · rw [if_neg c16] at H
              exact absurd H (by simp)
          · rw [if_neg c15] at H
            exact absurd H (by simp)
      · replace c6 := Bool.eq_false_iff.mpr c6
        subst c6
        have H1 : (if a0.toList = ([] : List UInt8) then (if 0 ≤ (mn 1 (mn a2 (wrap64 (255 - a1)))) then (if (mn 1 (mn a2 (wrap64 (255 - a1)))) ≤ 1 then (some ((⟨#[120]⟩ : ByteArray).extract 0 ((mn 1 (mn a2 (wrap64 (255 - a1)))) : Int).toNat, a1)) else (none)) else (none)) else (if 0 ≤ (mn (a0.size : Int) (mn a2 (wrap64 (255 - a1)))) then (if (mn (a0.size : Int) (mn a2 (wrap64 (255 - a1)))) ≤ (a0.size : Int) then (some (a0.extract 0 ((mn (a0.size : Int) (mn a2 (wrap64 (255 - a1)))) : Int).toNat, a1)) else (none)) else (none))) = some (r1, r2) := by rw [if_neg (show ¬ (false = true) by decide)] at H; exact H
        clear H
        have H := H1
        clear H1
        by_cases c17 : a0.toList = ([] : List UInt8)
        · rw [if_pos c17] at H
          have c17b0 : (a0.toList == ([] : List UInt8)) = true := beq_iff_eq.mpr c17
          have c17b1 : (a0.toList != ([] : List UInt8)) = false := bne_eq_false_iff_eq.mpr c17
          clear c17
          obtain ⟨ji18, hji18⟩ : ∃ j_ : Int, (mn a2 (wrap64 (255 - a1))) = j_ := ⟨_, rfl⟩
          replace H : (if 0 ≤ (mn 1 (ji18)) then (if (mn 1 (ji18)) ≤ 1 then (some ((⟨#[120]⟩ : ByteArray).extract 0 ((mn 1 (ji18)) : Int).toNat, a1)) else (none)) else (none)) = some (r1, r2) := by first | (rw [hji18] at H; exact H) | (simp only [hji18] at H ⊢; exact H)
          have hji18_ : (if (wrap64 (255 - a1)) < a2 then (wrap64 (255 - a1)) else a2) = ji18 := hji18
          obtain ⟨ji19, hji19⟩ : ∃ j_ : Int, (mn 1 (ji18)) = j_ := ⟨_, rfl⟩
          replace H : (if 0 ≤ (ji19) then (if (ji19) ≤ 1 then (some ((⟨#[120]⟩ : ByteArray).extract 0 ((ji19) : Int).toNat, a1)) else (none)) else (none)) = some (r1, r2) := by first | (rw [hji19] at H; exact H) | (simp only [hji19] at H ⊢; exact H)
          have hji19_ : (if (ji18) < 1 then (ji18) else 1) = ji19 := hji19
          by_cases c20 : 0 ≤ (ji19)
          · rw [if_pos c20] at H
            have c20b0 := eq_true c20
            have c20b1 : decide (0 ≤ (ji19)) = true := decide_eq_true c20
            clear c20
            by_cases c21 : (ji19) ≤ 1
            · rw [if_pos c21] at H
              have c21b0 := eq_true c21
              have c21b1 : decide ((ji19) ≤ 1) = true := decide_eq_true c21
              clear c21
              simp only [Option.some.injEq, Prod.mk.injEq] at H
              obtain ⟨rfl, rfl⟩ := H
              go_wp2
              go_ret2
              exact ⟨by first | rfl | (simp [errW_none, errW_some] <;> rfl) | (simp only [← hji18, ← hji19]; first | rfl | (simp [errW_none, errW_some] <;> rfl)) | (simp [*, errW_none, errW_some] <;> rfl), by repeat (first | (with_reducible first | exact HB.out | apply below_alloc | apply pw_below_drewN | apply below_drew1) | exact HB.out)⟩
            · rw [if_neg c21] at H
              exact absurd H (by simp)
          · rw [if_neg c20] at H
            exact absurd H (by simp)
        · rw [if_neg c17] at H
          have c17b0 : (a0.toList == ([] : List UInt8)) = false := beq_eq_false_iff_ne.mpr c17
          have c17b1 : (a0.toList != ([] : List UInt8)) = true := bne_iff_ne.mpr c17
          obtain ⟨ji22, hji22⟩ : ∃ j_ : Int, (mn a2 (wrap64 (255 - a1))) = j_ := ⟨_, rfl⟩
          replace H : (if 0 ≤ (mn (a0.size : Int) (ji22)) then (if (mn (a0.size : Int) (ji22)) ≤ (a0.size : Int) then (some (a0.extract 0 ((mn (a0.size : Int) (ji22)) : Int).toNat, a1)) else (none)) else (none)) = some (r1, r2) := by first | (rw [hji22] at H; exact H) | (simp only [hji22] at H ⊢; exact H)
          have hji22_ : (if (wrap64 (255 - a1)) < a2 then (wrap64 (255 - a1)) else a2) = ji22 := hji22
          obtain ⟨ji23, hji23⟩ : ∃ j_ : Int, (mn (a0.size : Int) (ji22)) = j_ := ⟨_, rfl⟩
          replace H : (if 0 ≤ (ji23) then (if (ji23) ≤ (a0.size : Int) then (some (a0.extract 0 ((ji23) : Int).toNat, a1)) else (none)) else (none)) = some (r1, r2) := by first | (rw [hji23] at H; exact H) | (simp only [hji23] at H ⊢; exact H)
          have hji23_ : (if (ji22) < (a0.size : Int) then (ji22) else (a0.size : Int)) = ji23 := hji23
          by_cases c24 : 0 ≤ (ji23)
          · rw [if_pos c24] at H
            have c24b0 := eq_true c24
            have c24b1 : decide (0 ≤ (ji23)) = true := decide_eq_true c24
            clear c24
            by_cases c25 : (ji23) ≤ (a0.size : Int)
            · rw [if_pos c25] at H
              have c25b0 := eq_true c25
              have c25b1 : decide ((ji23) ≤ (a0.size : Int)) = true := decide_eq_true c25
              clear c25
              simp only [Option.some.injEq, Prod.mk.injEq] at H
              obtain ⟨rfl, rfl⟩ := H
              go_wp2
              go_ret2
              exact ⟨by first | rfl | (simp [errW_none, errW_some] <;> rfl) | (simp only [← hji22, ← hji23]; first | rfl | (simp [errW_none, errW_some] <;> rfl)) | (simp [*, errW_none, errW_some] <;> rfl), by repeat (first | (with_reducible first | exact HB.out | apply below_alloc | apply pw_below_drewN | apply below_drew1) | exact HB.out)⟩
            · rw [if_neg c25] at H
              exact absurd H (by simp)
          · rw [if_neg c24] at H
            exact absurd H (by simp)

end Go.Proofs.Ytdgjanjoiabgfaa.Q
