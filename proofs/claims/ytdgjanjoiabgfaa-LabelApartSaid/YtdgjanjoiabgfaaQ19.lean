-- written by a program of this session's (wip/hook.py: the kit's print, with functions proved by hand)
import Derived.Test.YtdgjanjoiabgfaaQ0
import Derived.Test.YtdgjanjoiabgfaaQ2
import Derived.Test.YtdgjanjoiabgfaaQ8
import Derived.Test.YtdgjanjoiabgfaaQ17
namespace Go.Proofs.Ytdgjanjoiabgfaa.Q
open Go.RowKit Go.Proofs.YtdgjanjoiabgfaaW.PrintWords Go.Proofs.YtdgjanjoiabgfaaW.PrintLast Go.Proofs.Ytdgjanjoiabgfaa.Hand Go.Proofs.YtdgjanjoiabgfaaW.PrintMore
attribute [local go_sem] max2_int min2_int max_two min_two max_three min_three max_four min_four   -- for this text's walks alone
set_option linter.unusedVariables false
set_option linter.unusedSimpArgs false

/-! ### silversidelaw03_LabelApart: function 7 -/
mutual
def silversidelaw03_LabelApart.l0 : Nat → ByteArray → ByteArray → Int → Option (Bool)
  | 0, _, _, _ => none
  | k + 1, x0, x1, x2 => if (x1.size : Int) < (x0.size : Int) then (if 0 ≤ (x1.size : Int) then (if (x1.size : Int) ≤ (x0.size : Int) then (if x1.size + (x0.extract ((x1.size : Int) : Int).toNat x0.size).size ≤ 9223372036854775807 then (silversidelaw03_LabelApart.l0 k x0 (x1 ++ (x0.extract ((x1.size : Int) : Int).toNat x0.size)) x2) else (none)) else (none)) else (none)) else (if 0 ≤ (x0.size : Int) then (if (x0.size : Int) ≤ (x1.size : Int) then ((label_Encode.f k x0 x2).bind fun bt267 => ((label_Encode.f k (x1.extract 0 ((x0.size : Int) : Int).toNat) x2).bind fun bt269 => (if bt267.2 = 0 then (if bt269.2 = 0 then (if (bt267.1.size : Int) = (wrap64 ((x0.size : Int) + x2)) then (silversidelaw03_LabelApart.j1 k x0 (x1.extract 0 ((x0.size : Int) : Int).toNat) x2 bt267.1 bt269.1 ((bt269.1.size : Int) != (bt267.1.size : Int))) else (silversidelaw03_LabelApart.j1 k x0 (x1.extract 0 ((x0.size : Int) : Int).toNat) x2 bt267.1 bt269.1 true)) else (silversidelaw03_LabelApart.j1 k x0 (x1.extract 0 ((x0.size : Int) : Int).toNat) x2 bt267.1 bt269.1 true)) else (silversidelaw03_LabelApart.j1 k x0 (x1.extract 0 ((x0.size : Int) : Int).toNat) x2 bt267.1 bt269.1 true)))) else (none)) else (none))
def silversidelaw03_LabelApart.j1 : Nat → ByteArray → ByteArray → Int → ByteArray → ByteArray → Bool → Option (Bool)
  | 0, _, _, _, _, _, _ => none
  | k + 1, x0, x1, x2, x7, x9, x67 => if x67 = true then (some false) else (silversidelaw03_LabelApart.l1 k x0 x1 x2 x7 x9 0 0)
def silversidelaw03_LabelApart.l1 : Nat → ByteArray → ByteArray → Int → ByteArray → ByteArray → Int → Int → Option (Bool)
  | 0, _, _, _, _, _, _, _ => none
  | k + 1, x0, x1, x2, x7, x9, x11, x12 => if x12 < (x7.size : Int) then (if 0 ≤ x12 then (if x12 < (x9.size : Int) then (if (bt x7 x12) = (bt x9 x12) then (silversidelaw03_LabelApart.l1 k x0 x1 x2 x7 x9 x11 (wrap64 (x12 + 1))) else (silversidelaw03_LabelApart.l1 k x0 x1 x2 x7 x9 (wrap64 (x11 + 1)) (wrap64 (x12 + 1)))) else (none)) else (none)) else (if x0.toList = x1.toList then (if x11 = 0 then ((silversidelaw03_awake.f k).bind fun t271 => (some t271)) else (some false)) else (if x11 > x2 then ((silversidelaw03_awake.f k).bind fun t272 => (some t272)) else (some false)))
end
def silversidelaw03_LabelApart.f (k : Nat) (a0 : ByteArray) (a1 : ByteArray) (a2 : Int) : Option (Bool) := (silversidelaw03_fit.f k a0 a2 100).bind fun bt265 => (silversidelaw03_LabelApart.l0 k bt265.1 a1 bt265.2)
theorem silversidelaw03_LabelApart.mono_l : ∀ k, (∀ y0 y1 y2, LeO (silversidelaw03_LabelApart.l0 k y0 y1 y2) (silversidelaw03_LabelApart.l0 (k + 1) y0 y1 y2)) ∧ (∀ y0 y1 y2 y3 y4 y5, LeO (silversidelaw03_LabelApart.j1 k y0 y1 y2 y3 y4 y5) (silversidelaw03_LabelApart.j1 (k + 1) y0 y1 y2 y3 y4 y5)) ∧ (∀ y0 y1 y2 y3 y4 y5 y6, LeO (silversidelaw03_LabelApart.l1 k y0 y1 y2 y3 y4 y5 y6) (silversidelaw03_LabelApart.l1 (k + 1) y0 y1 y2 y3 y4 y5 y6))
  | 0 => ⟨fun _ _ _ r h => by simp [silversidelaw03_LabelApart.l0] at h, fun _ _ _ _ _ _ r h => by simp [silversidelaw03_LabelApart.j1] at h, fun _ _ _ _ _ _ _ r h => by simp [silversidelaw03_LabelApart.l1] at h⟩
  | k + 1 => by
    obtain ⟨ih0, ih1, ih2⟩ := silversidelaw03_LabelApart.mono_l k
    refine ⟨?_, ?_, ?_⟩
    · intro y0 y1 y2
      unfold silversidelaw03_LabelApart.l0
      repeat' first
      | (with_reducible exact ih0 _ _ _)
      | (with_reducible exact ih1 _ _ _ _ _ _)
      | (with_reducible exact ih2 _ _ _ _ _ _ _)
      | (with_reducible exact label_Encode.mono _ _ _)
      | (with_reducible exact silversidelaw03_awake.mono _)
      | (with_reducible exact silversidelaw03_fit.mono _ _ _ _)
      | (with_reducible exact LeO.refl _)
      | (with_reducible exact LeO.none _)
      | (with_reducible refine LeO.ite ?_ ?_)
      | (with_reducible refine LeO.bind ?_ (fun _ => ?_))
      | exact ih0 _ _ _
      | exact ih1 _ _ _ _ _ _
      | exact ih2 _ _ _ _ _ _ _
      | exact label_Encode.mono _ _ _
      | exact silversidelaw03_awake.mono _
      | exact silversidelaw03_fit.mono _ _ _ _
      | exact LeO.none _
      | refine LeO.ite ?_ ?_
      | refine LeO.bind ?_ (fun _ => ?_)
    · intro y0 y1 y2 y3 y4 y5
      unfold silversidelaw03_LabelApart.j1
      repeat' first
      | (with_reducible exact ih0 _ _ _)
      | (with_reducible exact ih1 _ _ _ _ _ _)
      | (with_reducible exact ih2 _ _ _ _ _ _ _)
      | (with_reducible exact label_Encode.mono _ _ _)
      | (with_reducible exact silversidelaw03_awake.mono _)
      | (with_reducible exact silversidelaw03_fit.mono _ _ _ _)
      | (with_reducible exact LeO.refl _)
      | (with_reducible exact LeO.none _)
      | (with_reducible refine LeO.ite ?_ ?_)
      | (with_reducible refine LeO.bind ?_ (fun _ => ?_))
      | exact ih0 _ _ _
      | exact ih1 _ _ _ _ _ _
      | exact ih2 _ _ _ _ _ _ _
      | exact label_Encode.mono _ _ _
      | exact silversidelaw03_awake.mono _
      | exact silversidelaw03_fit.mono _ _ _ _
      | exact LeO.none _
      | refine LeO.ite ?_ ?_
      | refine LeO.bind ?_ (fun _ => ?_)
    · intro y0 y1 y2 y3 y4 y5 y6
      unfold silversidelaw03_LabelApart.l1
      repeat' first
      | (with_reducible exact ih0 _ _ _)
      | (with_reducible exact ih1 _ _ _ _ _ _)
      | (with_reducible exact ih2 _ _ _ _ _ _ _)
      | (with_reducible exact label_Encode.mono _ _ _)
      | (with_reducible exact silversidelaw03_awake.mono _)
      | (with_reducible exact silversidelaw03_fit.mono _ _ _ _)
      | (with_reducible exact LeO.refl _)
      | (with_reducible exact LeO.none _)
      | (with_reducible refine LeO.ite ?_ ?_)
      | (with_reducible refine LeO.bind ?_ (fun _ => ?_))
      | exact ih0 _ _ _
      | exact ih1 _ _ _ _ _ _
      | exact ih2 _ _ _ _ _ _ _
      | exact label_Encode.mono _ _ _
      | exact silversidelaw03_awake.mono _
      | exact silversidelaw03_fit.mono _ _ _ _
      | exact LeO.none _
      | refine LeO.ite ?_ ?_
      | refine LeO.bind ?_ (fun _ => ?_)
theorem silversidelaw03_LabelApart.mono : ∀ a0 a1 a2 k, LeO (silversidelaw03_LabelApart.f k a0 a1 a2) (silversidelaw03_LabelApart.f (k + 1) a0 a1 a2) := by
  intro a0 a1 a2 k
  obtain ⟨ih0, ih1, ih2⟩ := silversidelaw03_LabelApart.mono_l k
  unfold silversidelaw03_LabelApart.f
  repeat' first
      | (with_reducible exact ih0 _ _ _)
      | (with_reducible exact ih1 _ _ _ _ _ _)
      | (with_reducible exact ih2 _ _ _ _ _ _ _)
      | (with_reducible exact label_Encode.mono _ _ _)
      | (with_reducible exact silversidelaw03_awake.mono _)
      | (with_reducible exact silversidelaw03_fit.mono _ _ _ _)
      | (with_reducible exact LeO.refl _)
      | (with_reducible exact LeO.none _)
      | (with_reducible refine LeO.ite ?_ ?_)
      | (with_reducible refine LeO.bind ?_ (fun _ => ?_))
      | exact ih0 _ _ _
      | exact ih1 _ _ _ _ _ _
      | exact ih2 _ _ _ _ _ _ _
      | exact label_Encode.mono _ _ _
      | exact silversidelaw03_awake.mono _
      | exact silversidelaw03_fit.mono _ _ _ _
      | exact LeO.none _
      | refine LeO.ite ?_ ?_
      | refine LeO.bind ?_ (fun _ => ?_)
set_option maxHeartbeats 8000000 in
set_option maxRecDepth 100000 in
theorem silversidelaw03_LabelApart.calls (k : Nat) (a0 : ByteArray) (a1 : ByteArray) (a2 : Int) (r : Bool) (w : World) (h : silversidelaw03_LabelApart.f k a0 a1 a2 = some r) :
    Calls Try.prog 7 #[.string a0, .string a1, .int .i64 a2] w fun e w' => e = .returned (.bool r) ∧ Below w.heap.size w w' := by
  have HB := Aside0.mk (Below.refl w.heap.size w)
  have H : ((silversidelaw03_fit.f k a0 a2 100).bind fun bt265 => (silversidelaw03_LabelApart.l0 k bt265.1 a1 bt265.2)) = some r := h
  clear h
  replace H := Option.bind_eq_some_iff.mp H
  obtain ⟨⟨t265, t266⟩, A40, H⟩ := H
  replace H : (silversidelaw03_LabelApart.l0 k t265 a1 t266) = some r := H
  have A4 := Aside0.mk A40; (try simp only [Int.toNat_natCast] at A4)
  clear A40
  have H' := Aside0.mk H
  clear H
  go_enter Try.func7, Try.ntmps7
  go_wp2_with (first | (go_at_call 22; (with_reducible refine (silversidelaw03_fit.calls k a0 a2 100 t265 t266 _ A4.out).mono ?_); rintro e w5 ⟨rfl, hb⟩; have n0_ := Aside0.mk (below_step (by repeat (first | (with_reducible first | exact HB.out | apply below_alloc | apply pw_below_drewN | apply below_drew1) | exact HB.out)) hb); clear HB; have HB := n0_; clear n0_; (try clear hb); (try clear hb2); (try clear hk); (try clear hi)))
  repeat (go_quiet (first | (go_at_call 22; (with_reducible refine (silversidelaw03_fit.calls k a0 a2 100 t265 t266 _ A4.out).mono ?_); rintro e w5 ⟨rfl, hb⟩; have n0_ := Aside0.mk (below_step (by repeat (first | (with_reducible first | exact HB.out | apply below_alloc | apply pw_below_drewN | apply below_drew1) | exact HB.out)) hb); clear HB; have HB := n0_; clear n0_; (try clear hb); (try clear hb2); (try clear hk); (try clear hi))); try go_wp2_with (first | (go_at_call 22; (with_reducible refine (silversidelaw03_fit.calls k a0 a2 100 t265 t266 _ A4.out).mono ?_); rintro e w5 ⟨rfl, hb⟩; have n0_ := Aside0.mk (below_step (by repeat (first | (with_reducible first | exact HB.out | apply below_alloc | apply pw_below_drewN | apply below_drew1) | exact HB.out)) hb); clear HB; have HB := n0_; clear n0_; (try clear hb); (try clear hb2); (try clear hk); (try clear hi))))
  go_loopg [1] k (fun kq v1 w' => ∃ (x1_1 : ByteArray), v1 = .string x1_1 ∧ Aside0 (silversidelaw03_LabelApart.l0 kq t265 x1_1 t266 = some r) ∧ Aside0 (kq ≤ k) ∧ Aside0 (Below w.heap.size w w'))
  case atStart => exact ⟨(a1), (by first | rfl | (simp; done) | (simp [*]; done)), H', ⟨Nat.le_refl _⟩, ⟨by repeat (first | (with_reducible first | exact HB.out | apply below_alloc | apply pw_below_drewN | apply below_drew1) | exact HB.out)⟩⟩
  case round =>
    clear H'
    try clear p2
    obtain ⟨x1_1, rfl, HA, HK1, HB⟩ := hrel
    cases gk with
    | zero => exact absurd HA.out (by simp [silversidelaw03_LabelApart.l0])
    | succ k1 =>
      have H := HA.out
      clear HA
      simp only [silversidelaw03_LabelApart.l0] at H
      by_cases c6 : (x1_1.size : Int) < (t265.size : Int)
      · rw [if_pos c6] at H
        have c6b0 : decide ((x1_1.size : Int) < (t265.size : Int)) = true := decide_eq_true c6
        have c6b1 : decide (x1_1.size < t265.size) = true := decide_eq_true (Int.ofNat_lt.mp c6)
        clear c6
        by_cases c7 : 0 ≤ (x1_1.size : Int)
        · rw [if_pos c7] at H
          have c7b0 := eq_true c7
          have c7b1 : decide (0 ≤ (x1_1.size : Int)) = true := decide_eq_true c7
          clear c7
          by_cases c8 : (x1_1.size : Int) ≤ (t265.size : Int)
          · rw [if_pos c8] at H
            have c8b0 := eq_true c8
            have c8b1 : decide ((x1_1.size : Int) ≤ (t265.size : Int)) = true := decide_eq_true c8
            clear c8
            by_cases c9 : x1_1.size + (t265.extract ((x1_1.size : Int) : Int).toNat t265.size).size ≤ 9223372036854775807
            · rw [if_pos c9] at H
              have c9b0 := eq_true c9
              have c9b1 : decide (x1_1.size + (t265.extract x1_1.size t265.size).size ≤ 9223372036854775807) = true := decide_eq_true c9
              try have c9b2 : (9223372036854775807 < x1_1.size + (t265.extract ((x1_1.size : Int) : Int).toNat t265.size).size) = False := eq_false (Nat.not_lt.2 c9); (try (have c9b3 := c9; simp only [Int.toNat_natCast, ByteArray.size_extract, Nat.min_self] at c9b3))
              have H' := Aside0.mk H
              clear H
              go_wp2
              repeat (go_quiet (fail); try go_wp2)
              go_roundg k1
              case measure => have := HK1.out; omega
              case rel => exact ⟨(x1_1 ++ (t265.extract ((x1_1.size : Int) : Int).toNat t265.size)), (by first | rfl | (simp; done) | (simp [*]; done)), H', ⟨by have := HK1.out; omega⟩, ⟨by repeat (first | (with_reducible first | exact HB.out | apply below_alloc | apply pw_below_drewN | apply below_drew1) | exact HB.out)⟩⟩
            · rw [if_neg c9] at H
              exact absurd H (by simp)
          · rw [if_neg c8] at H
            exact absurd H (by simp)
        · rw [if_neg c7] at H
          exact absurd H (by simp)
      · rw [if_neg c6] at H
        have c6b0 : decide ((x1_1.size : Int) < (t265.size : Int)) = false := decide_eq_false c6
        have c6b1 : decide (x1_1.size < t265.size) = false := decide_eq_false (fun h => c6 (Int.ofNat_lt.mpr h))
        clear c6
        by_cases c10 : 0 ≤ (t265.size : Int)
        · rw [if_pos c10] at H
          have c10b0 := eq_true c10
          have c10b1 : decide (0 ≤ (t265.size : Int)) = true := decide_eq_true c10
          clear c10
          by_cases c11 : (t265.size : Int) ≤ (x1_1.size : Int)
          · rw [if_pos c11] at H
            have c11b0 := eq_true c11
            have c11b1 : decide ((t265.size : Int) ≤ (x1_1.size : Int)) = true := decide_eq_true c11
            clear c11
            replace H := Option.bind_eq_some_iff.mp H
            obtain ⟨⟨t267, t268⟩, A120, H⟩ := H
            replace H : ((label_Encode.f k1 (x1_1.extract 0 ((t265.size : Int) : Int).toNat) t266).bind fun bt269 => (if t268 = 0 then (if bt269.2 = 0 then (if (t267.size : Int) = (wrap64 ((t265.size : Int) + t266)) then (silversidelaw03_LabelApart.j1 k1 t265 (x1_1.extract 0 ((t265.size : Int) : Int).toNat) t266 t267 bt269.1 ((bt269.1.size : Int) != (t267.size : Int))) else (silversidelaw03_LabelApart.j1 k1 t265 (x1_1.extract 0 ((t265.size : Int) : Int).toNat) t266 t267 bt269.1 true)) else (silversidelaw03_LabelApart.j1 k1 t265 (x1_1.extract 0 ((t265.size : Int) : Int).toNat) t266 t267 bt269.1 true)) else (silversidelaw03_LabelApart.j1 k1 t265 (x1_1.extract 0 ((t265.size : Int) : Int).toNat) t266 t267 bt269.1 true))) = some r := H
            have A12 := Aside0.mk A120; (try simp only [Int.toNat_natCast] at A12)
            clear A120
            replace H := Option.bind_eq_some_iff.mp H
            obtain ⟨⟨t269, t270⟩, A130, H⟩ := H
            replace H : (if t268 = 0 then (if t270 = 0 then (if (t267.size : Int) = (wrap64 ((t265.size : Int) + t266)) then (silversidelaw03_LabelApart.j1 k1 t265 (x1_1.extract 0 ((t265.size : Int) : Int).toNat) t266 t267 t269 ((t269.size : Int) != (t267.size : Int))) else (silversidelaw03_LabelApart.j1 k1 t265 (x1_1.extract 0 ((t265.size : Int) : Int).toNat) t266 t267 t269 true)) else (silversidelaw03_LabelApart.j1 k1 t265 (x1_1.extract 0 ((t265.size : Int) : Int).toNat) t266 t267 t269 true)) else (silversidelaw03_LabelApart.j1 k1 t265 (x1_1.extract 0 ((t265.size : Int) : Int).toNat) t266 t267 t269 true)) = some r := H
            have A13 := Aside0.mk A130; (try simp only [Int.toNat_natCast] at A13)
            clear A130
            have HC14 := Aside0.mk H
            clear H
            go_upto_region 7 with (first | (go_at_call 14; (with_reducible refine (label_Encode.calls k1 t265 t266 t267 t268 _ A12.out).mono ?_); rintro e w15 ⟨rfl, hb⟩; have n0_ := Aside0.mk (below_step (by repeat (first | (with_reducible first | exact HB.out | apply below_alloc | apply pw_below_drewN | apply below_drew1) | exact HB.out)) hb); clear HB; have HB := n0_; clear n0_; (try clear hb); (try clear hb2); (try clear hk); (try clear hi)) | (go_at_call 14; (with_reducible refine (label_Encode.calls k1 (x1_1.extract 0 t265.size) t266 t269 t270 _ A13.out).mono ?_); rintro e w16 ⟨rfl, hb⟩; have n0_ := Aside0.mk (below_step (by repeat (first | (with_reducible first | exact HB.out | apply below_alloc | apply pw_below_drewN | apply below_drew1) | exact HB.out)) hb); clear HB; have HB := n0_; clear n0_; (try clear hb); (try clear hb2); (try clear hk); (try clear hi)))
            repeat (go_quiet (first | (go_at_call 14; (with_reducible refine (label_Encode.calls k1 t265 t266 t267 t268 _ A12.out).mono ?_); rintro e w15 ⟨rfl, hb⟩; have n0_ := Aside0.mk (below_step (by repeat (first | (with_reducible first | exact HB.out | apply below_alloc | apply pw_below_drewN | apply below_drew1) | exact HB.out)) hb); clear HB; have HB := n0_; clear n0_; (try clear hb); (try clear hb2); (try clear hk); (try clear hi)) | (go_at_call 14; (with_reducible refine (label_Encode.calls k1 (x1_1.extract 0 t265.size) t266 t269 t270 _ A13.out).mono ?_); rintro e w16 ⟨rfl, hb⟩; have n0_ := Aside0.mk (below_step (by repeat (first | (with_reducible first | exact HB.out | apply below_alloc | apply pw_below_drewN | apply below_drew1) | exact HB.out)) hb); clear HB; have HB := n0_; clear n0_; (try clear hb); (try clear hb2); (try clear hk); (try clear hi))); go_upto_region 7 with (first | (go_at_call 14; (with_reducible refine (label_Encode.calls k1 t265 t266 t267 t268 _ A12.out).mono ?_); rintro e w15 ⟨rfl, hb⟩; have n0_ := Aside0.mk (below_step (by repeat (first | (with_reducible first | exact HB.out | apply below_alloc | apply pw_below_drewN | apply below_drew1) | exact HB.out)) hb); clear HB; have HB := n0_; clear n0_; (try clear hb); (try clear hb2); (try clear hk); (try clear hi)) | (go_at_call 14; (with_reducible refine (label_Encode.calls k1 (x1_1.extract 0 t265.size) t266 t269 t270 _ A13.out).mono ?_); rintro e w16 ⟨rfl, hb⟩; have n0_ := Aside0.mk (below_step (by repeat (first | (with_reducible first | exact HB.out | apply below_alloc | apply pw_below_drewN | apply below_drew1) | exact HB.out)) hb); clear HB; have HB := n0_; clear n0_; (try clear hb); (try clear hb2); (try clear hk); (try clear hi))))
            (try simp only [Act.put, List.setIfInBounds_toArray, List.set_cons_zero, List.set_cons_succ])
            go_cut [67] (fun v67 wc => ∃ (kq : Nat) (x67_13 : Bool), v67 = .bool x67_13 ∧ Aside0 (silversidelaw03_LabelApart.j1 kq t265 (x1_1.extract 0 ((t265.size : Int) : Int).toNat) t266 t267 t269 x67_13 = some r) ∧ Aside0 (kq ≤ k1) ∧ Aside0 (Below w.heap.size w wc))
            case first =>
              have H := HC14.out
              clear HC14
              by_cases c17 : t268 = 0
              · rw [if_pos c17] at H
                have c17b0 : (t268 == 0) = true := beq_iff_eq.mpr c17
                have c17b1 : (t268 != 0) = false := bne_eq_false_iff_eq.mpr c17
                clear c17
                (first | rw [c17b0] | (simp only [i64_w, i32_w]; rw [c17b0]) | skip)
                by_cases c18 : t270 = 0
                · rw [if_pos c18] at H
                  have c18b0 : (t270 == 0) = true := beq_iff_eq.mpr c18
                  have c18b1 : (t270 != 0) = false := bne_eq_false_iff_eq.mpr c18
                  clear c18
                  by_cases c19 : (t267.size : Int) = (wrap64 ((t265.size : Int) + t266))
                  · rw [if_pos c19] at H
                    have c19b0 : ((t267.size : Int) == (wrap64 ((t265.size : Int) + t266))) = true := beq_iff_eq.mpr c19
                    have c19b1 : ((t267.size : Int) != (wrap64 ((t265.size : Int) + t266))) = false := bne_eq_false_iff_eq.mpr c19
                    clear c19
                    have H' := Aside0.mk H
                    clear H
                    go_wp2
                    repeat (go_quiet (fail); try go_wp2)
                    go_meet
                    case rel => exact ⟨_, (((t269.size : Int) != (t267.size : Int))), (by first | rfl | (simp; done) | (simp [*]; done)), H', ⟨by have := HK1.out; first | omega | exact Nat.le_refl _⟩, ⟨by repeat (first | (with_reducible first | exact HB.out | apply below_alloc | apply pw_below_drewN | apply below_drew1) | exact HB.out)⟩⟩
                  · rw [if_neg c19] at H
                    have c19b0 : ((t267.size : Int) == (wrap64 ((t265.size : Int) + t266))) = false := beq_eq_false_iff_ne.mpr c19
                    have c19b1 : ((t267.size : Int) != (wrap64 ((t265.size : Int) + t266))) = true := bne_iff_ne.mpr c19
                    have H' := Aside0.mk H
                    clear H
                    go_wp2
                    repeat (go_quiet (fail); try go_wp2)
                    go_meet
                    case rel => exact ⟨_, (true), (by first | rfl | (simp; done) | (simp [*]; done)), H', ⟨by have := HK1.out; first | omega | exact Nat.le_refl _⟩, ⟨by repeat (first | (with_reducible first | exact HB.out | apply below_alloc | apply pw_below_drewN | apply below_drew1) | exact HB.out)⟩⟩
                · rw [if_neg c18] at H
                  have c18b0 : (t270 == 0) = false := beq_eq_false_iff_ne.mpr c18
                  have c18b1 : (t270 != 0) = true := bne_iff_ne.mpr c18
                  have H' := Aside0.mk H
                  clear H
                  go_wp2
                  repeat (go_quiet (fail); try go_wp2)
                  go_meet
                  case rel => exact ⟨_, (true), (by first | rfl | (simp; done) | (simp [*]; done)), H', ⟨by have := HK1.out; first | omega | exact Nat.le_refl _⟩, ⟨by repeat (first | (with_reducible first | exact HB.out | apply below_alloc | apply pw_below_drewN | apply below_drew1) | exact HB.out)⟩⟩
              · rw [if_neg c17] at H
                have c17b0 : (t268 == 0) = false := beq_eq_false_iff_ne.mpr c17
                have c17b1 : (t268 != 0) = true := bne_iff_ne.mpr c17
                (first | rw [c17b0] | (simp only [i64_w, i32_w]; rw [c17b0]) | skip)
                have H' := Aside0.mk H
                clear H
                go_wp2
                repeat (go_quiet (fail); try go_wp2)
                go_meet
                case rel => exact ⟨_, (true), (by first | rfl | (simp; done) | (simp [*]; done)), H', ⟨by have := HK1.out; first | omega | exact Nat.le_refl _⟩, ⟨by repeat (first | (with_reducible first | exact HB.out | apply below_alloc | apply pw_below_drewN | apply below_drew1) | exact HB.out)⟩⟩
            case rest =>
              clear HC14
              try clear c1
              try clear p2
              try clear c6
              try clear c6b0
              try clear c6b1
              try clear p6
              try clear c7
              try clear c7b0
              try clear c7b1
              try clear c8
              try clear c8b0
              try clear c8b1
              try clear c9
              try clear c9b0
              try clear c9b1
              try clear c9b2
              try clear c10
              try clear c10b0
              try clear c10b1
              try clear c11
              try clear c11b0
              try clear c11b1
              try clear c17
              try clear c17b0
              try clear c17b1
              try clear c18
              try clear c18b0
              try clear c18b1
              try clear c19
              try clear c19b0
              try clear c19b1
              try clear p2
              obtain ⟨kq, x67_13, rfl, HA, HJ13, HB⟩ := hcut
              cases kq with
              | zero => exact absurd HA.out (by simp [silversidelaw03_LabelApart.j1])
              | succ kj13 =>
                have H := HA.out
                clear HA
                simp only [silversidelaw03_LabelApart.j1] at H
                by_cases c20 : x67_13 = true
                · subst c20
                  have H1 : (some false) = some r := by rw [if_pos rfl] at H; exact H
                  clear H
                  have H := H1
                  clear H1
                  obtain rfl := Option.some.inj H
                  go_wp2
                  repeat (go_quiet (fail); try go_wp2)
                  go_ret
                  exact ⟨by first | rfl | (simp [errW_none, errW_some] <;> rfl) | (simp [*, errW_none, errW_some] <;> rfl), by repeat (first | (with_reducible first | exact HB.out | apply below_alloc | apply pw_below_drewN | apply below_drew1) | exact HB.out)⟩
                · replace c20 := Bool.eq_false_iff.mpr c20
                  subst c20
                  have H1 : (silversidelaw03_LabelApart.l1 kj13 t265 (x1_1.extract 0 ((t265.size : Int) : Int).toNat) t266 t267 t269 0 0) = some r := by rw [if_neg (show ¬ (false = true) by decide)] at H; exact H
                  clear H
                  have H := H1
                  clear H1
                  have H' := Aside0.mk H
                  clear H
                  go_wp2
                  repeat (go_quiet (fail); try go_wp2)
                  go_loopg [11, 12] kj13 (fun kq v11 v12 w' => ∃ (x11_3 : Int) (x12_3 : Int), v11 = .int .i64 x11_3 ∧ v12 = .int .i64 x12_3 ∧ Aside0 (silversidelaw03_LabelApart.l1 kq t265 (x1_1.extract 0 ((t265.size : Int) : Int).toNat) t266 t267 t269 x11_3 x12_3 = some r) ∧ Aside0 (kq ≤ kj13) ∧ Aside0 (Below w.heap.size w w'))
                  case atStart => exact ⟨(0), (0), (by first | rfl | (simp; done) | (simp [*]; done)), (by first | rfl | (simp; done) | (simp [*]; done)), H', ⟨Nat.le_refl _⟩, ⟨by repeat (first | (with_reducible first | exact HB.out | apply below_alloc | apply pw_below_drewN | apply below_drew1) | exact HB.out)⟩⟩
                  case round =>
                    clear H'
                    try clear c1
                    try clear c2
                    try clear p2
                    try clear c6
                    try clear c6b0
                    try clear c6b1
                    try clear p6
                    try clear c7
                    try clear c7b0
                    try clear c7b1
                    try clear c8
                    try clear c8b0
                    try clear c8b1
                    try clear c9
                    try clear c9b0
                    try clear c9b1
                    try clear c9b2
                    try clear c10
                    try clear c10b0
                    try clear c10b1
                    try clear c11
                    try clear c11b0
                    try clear c11b1
                    try clear c17
                    try clear c17b0
                    try clear c17b1
                    try clear c18
                    try clear c18b0
                    try clear c18b1
                    try clear c19
                    try clear c19b0
                    try clear c19b1
                    try clear c20
                    try clear p2
                    try clear p6
                    obtain ⟨x11_3, x12_3, rfl, rfl, HA, HK3, HB⟩ := hrel
                    cases gk with
                    | zero => exact absurd HA.out (by simp [silversidelaw03_LabelApart.l1])
                    | succ k3 =>
                      have H := HA.out
                      clear HA
                      simp only [silversidelaw03_LabelApart.l1] at H
                      by_cases c21 : x12_3 < (t267.size : Int)
                      · rw [if_pos c21] at H
                        have c21b0 : decide (x12_3 < (t267.size : Int)) = true := decide_eq_true c21
                        clear c21
                        by_cases c22 : 0 ≤ x12_3
                        · rw [if_pos c22] at H
                          have c22b0 : decide (0 ≤ x12_3) = true := decide_eq_true c22
                          clear c22
                          by_cases c24 : x12_3 < (t269.size : Int)
                          · rw [if_pos c24] at H
                            have c24b0 : decide (x12_3 < (t269.size : Int)) = true := decide_eq_true c24
                            clear c24
                            by_cases c26 : (bt t267 x12_3) = (bt t269 x12_3)
                            · rw [if_pos c26] at H
                              have c26b0 : ((bt t267 x12_3) == (bt t269 x12_3)) = true := beq_iff_eq.mpr c26
                              have c26b1 : ((bt t267 x12_3) != (bt t269 x12_3)) = false := bne_eq_false_iff_eq.mpr c26
                              clear c26
                              have H' := Aside0.mk H
                              clear H
                              have p23 : 0 ≤ (x12_3 : Int) := of_decide_eq_true (by first | (with_reducible assumption) | assumption)
                              have q23 : x12_3 < (t267.size : Int) := of_decide_eq_true (by first | (with_reducible assumption) | assumption)
                              have hx23 := bt_at t267 x12_3
                              replace p23 := eq_true p23
                              replace q23 := eq_true q23
                              have p25 : 0 ≤ (x12_3 : Int) := of_decide_eq_true (by first | (with_reducible assumption) | assumption)
                              have q25 : x12_3 < (t269.size : Int) := of_decide_eq_true (by first | (with_reducible assumption) | assumption)
                              have hx25 := bt_at t269 x12_3
                              replace p25 := eq_true p25
                              replace q25 := eq_true q25
                              go_wp2
                              repeat (go_quiet (fail); try go_wp2)
                              go_roundg k3
                              case measure => have := HK1.out; have := HJ13.out; have := HK3.out; omega
                              case rel => exact ⟨(x11_3), (wrap64 (x12_3 + 1)), (by first | rfl | (simp; done) | (simp [*]; done)), (by first | rfl | (simp; done) | (simp [*]; done)), H', ⟨by have := HK1.out; have := HJ13.out; have := HK3.out; omega⟩, ⟨by repeat (first | (with_reducible first | exact HB.out | apply below_alloc | apply pw_below_drewN | apply below_drew1) | exact HB.out)⟩⟩
                            · rw [if_neg c26] at H
                              have c26b0 : ((bt t267 x12_3) == (bt t269 x12_3)) = false := beq_eq_false_iff_ne.mpr c26
                              have c26b1 : ((bt t267 x12_3) != (bt t269 x12_3)) = true := bne_iff_ne.mpr c26
                              have H' := Aside0.mk H
                              clear H
                              have p23 : 0 ≤ (x12_3 : Int) := of_decide_eq_true (by first | (with_reducible assumption) | assumption)
                              have q23 : x12_3 < (t267.size : Int) := of_decide_eq_true (by first | (with_reducible assumption) | assumption)
                              have hx23 := bt_at t267 x12_3
                              replace p23 := eq_true p23
                              replace q23 := eq_true q23
                              have p25 : 0 ≤ (x12_3 : Int) := of_decide_eq_true (by first | (with_reducible assumption) | assumption)
                              have q25 : x12_3 < (t269.size : Int) := of_decide_eq_true (by first | (with_reducible assumption) | assumption)
                              have hx25 := bt_at t269 x12_3
                              replace p25 := eq_true p25
                              replace q25 := eq_true q25
                              go_wp2
                              repeat (go_quiet (fail); try go_wp2)
                              go_roundg k3
                              case measure => have := HK1.out; have := HJ13.out; have := HK3.out; omega
                              case rel => exact ⟨(wrap64 (x11_3 + 1)), (wrap64 (x12_3 + 1)), (by first | rfl | (simp; done) | (simp [*]; done)), (by first | rfl | (simp; done) | (simp [*]; done)), H', ⟨by have := HK1.out; have := HJ13.out; have := HK3.out; omega⟩, ⟨by repeat (first | (with_reducible first | exact HB.out | apply below_alloc | apply pw_below_drewN | apply below_drew1) | exact HB.out)⟩⟩
                          · rw [if_neg c24] at H
                            exact absurd H (by simp)
                        · rw [if_neg c22] at H
                          exact absurd H (by simp)
                      · rw [if_neg c21] at H
                        have c21b0 : decide (x12_3 < (t267.size : Int)) = false := decide_eq_false c21
                        clear c21
                        by_cases c27 : t265.toList = (x1_1.extract 0 ((t265.size : Int) : Int).toNat).toList
                        · rw [if_pos c27] at H
                          have c27b0 : (t265.toList == (x1_1.extract 0 t265.size).toList) = true := beq_iff_eq.mpr c27
                          have c27b1 : (t265.toList != (x1_1.extract 0 t265.size).toList) = false := bne_eq_false_iff_eq.mpr c27
                          clear c27
                          by_cases c28 : x11_3 = 0
                          · rw [if_pos c28] at H
                            have c28b0 : (x11_3 == 0) = true := beq_iff_eq.mpr c28
                            have c28b1 : (x11_3 != 0) = false := bne_eq_false_iff_eq.mpr c28
                            clear c28
                            replace H := Option.bind_eq_some_iff.mp H
                            obtain ⟨t271, A290, H⟩ := H
                            replace H : (some t271) = some r := H
                            have A29 := Aside0.mk A290; (try simp only [Int.toNat_natCast] at A29)
                            clear A290
                            obtain rfl := Option.some.inj H
                            go_wp2_with (first | (go_at_call 16; (with_reducible refine (silversidelaw03_awake.calls k3  t271 _ A29.out).mono ?_); rintro e w30 ⟨rfl, hb⟩; have n0_ := Aside0.mk (below_step (by repeat (first | (with_reducible first | exact HB.out | apply below_alloc | apply pw_below_drewN | apply below_drew1) | exact HB.out)) hb); clear HB; have HB := n0_; clear n0_; (try clear hb); (try clear hb2); (try clear hk); (try clear hi)))
                            repeat (go_quiet (first | (go_at_call 16; (with_reducible refine (silversidelaw03_awake.calls k3  t271 _ A29.out).mono ?_); rintro e w30 ⟨rfl, hb⟩; have n0_ := Aside0.mk (below_step (by repeat (first | (with_reducible first | exact HB.out | apply below_alloc | apply pw_below_drewN | apply below_drew1) | exact HB.out)) hb); clear HB; have HB := n0_; clear n0_; (try clear hb); (try clear hb2); (try clear hk); (try clear hi))); try go_wp2_with (first | (go_at_call 16; (with_reducible refine (silversidelaw03_awake.calls k3  t271 _ A29.out).mono ?_); rintro e w30 ⟨rfl, hb⟩; have n0_ := Aside0.mk (below_step (by repeat (first | (with_reducible first | exact HB.out | apply below_alloc | apply pw_below_drewN | apply below_drew1) | exact HB.out)) hb); clear HB; have HB := n0_; clear n0_; (try clear hb); (try clear hb2); (try clear hk); (try clear hi))))
                            go_ret
                            exact ⟨by first | rfl | (simp [errW_none, errW_some] <;> rfl) | (simp [*, errW_none, errW_some] <;> rfl), by repeat (first | (with_reducible first | exact HB.out | apply below_alloc | apply pw_below_drewN | apply below_drew1) | exact HB.out)⟩
                          · rw [if_neg c28] at H
                            have c28b0 : (x11_3 == 0) = false := beq_eq_false_iff_ne.mpr c28
                            have c28b1 : (x11_3 != 0) = true := bne_iff_ne.mpr c28
                            obtain rfl := Option.some.inj H
                            go_wp2
                            repeat (go_quiet (fail); try go_wp2)
                            go_ret
                            exact ⟨by first | rfl | (simp [errW_none, errW_some] <;> rfl) | (simp [*, errW_none, errW_some] <;> rfl), by repeat (first | (with_reducible first | exact HB.out | apply below_alloc | apply pw_below_drewN | apply below_drew1) | exact HB.out)⟩
                        · rw [if_neg c27] at H
                          have c27b0 : (t265.toList == (x1_1.extract 0 t265.size).toList) = false := beq_eq_false_iff_ne.mpr c27
                          have c27b1 : (t265.toList != (x1_1.extract 0 t265.size).toList) = true := bne_iff_ne.mpr c27
                          by_cases c31 : x11_3 > t266
                          · rw [if_pos c31] at H
                            have c31b0 : decide (t266 < x11_3) = true := decide_eq_true c31
                            clear c31
                            replace H := Option.bind_eq_some_iff.mp H
                            obtain ⟨t272, A320, H⟩ := H
                            replace H : (some t272) = some r := H
                            have A32 := Aside0.mk A320; (try simp only [Int.toNat_natCast] at A32)
                            clear A320
                            obtain rfl := Option.some.inj H
                            go_wp2_with (first | (go_at_call 16; (with_reducible refine (silversidelaw03_awake.calls k3  t272 _ A32.out).mono ?_); rintro e w33 ⟨rfl, hb⟩; have n0_ := Aside0.mk (below_step (by repeat (first | (with_reducible first | exact HB.out | apply below_alloc | apply pw_below_drewN | apply below_drew1) | exact HB.out)) hb); clear HB; have HB := n0_; clear n0_; (try clear hb); (try clear hb2); (try clear hk); (try clear hi)))
                            repeat (go_quiet (first | (go_at_call 16; (with_reducible refine (silversidelaw03_awake.calls k3  t272 _ A32.out).mono ?_); rintro e w33 ⟨rfl, hb⟩; have n0_ := Aside0.mk (below_step (by repeat (first | (with_reducible first | exact HB.out | apply below_alloc | apply pw_below_drewN | apply below_drew1) | exact HB.out)) hb); clear HB; have HB := n0_; clear n0_; (try clear hb); (try clear hb2); (try clear hk); (try clear hi))); try go_wp2_with (first | (go_at_call 16; (with_reducible refine (silversidelaw03_awake.calls k3  t272 _ A32.out).mono ?_); rintro e w33 ⟨rfl, hb⟩; have n0_ := Aside0.mk (below_step (by repeat (first | (with_reducible first | exact HB.out | apply below_alloc | apply pw_below_drewN | apply below_drew1) | exact HB.out)) hb); clear HB; have HB := n0_; clear n0_; (try clear hb); (try clear hb2); (try clear hk); (try clear hi))))
                            go_ret
                            exact ⟨by first | rfl | (simp [errW_none, errW_some] <;> rfl) | (simp [*, errW_none, errW_some] <;> rfl), by repeat (first | (with_reducible first | exact HB.out | apply below_alloc | apply pw_below_drewN | apply below_drew1) | exact HB.out)⟩
                          · rw [if_neg c31] at H
                            have c31b0 : decide (t266 < x11_3) = false := decide_eq_false c31
                            clear c31
                            obtain rfl := Option.some.inj H
                            go_wp2
                            repeat (go_quiet (fail); try go_wp2)
                            go_ret
                            exact ⟨by first | rfl | (simp [errW_none, errW_some] <;> rfl) | (simp [*, errW_none, errW_some] <;> rfl), by repeat (first | (with_reducible first | exact HB.out | apply below_alloc | apply pw_below_drewN | apply below_drew1) | exact HB.out)⟩
          · rw [if_neg c11] at H
            exact absurd H (by simp)
        · rw [if_neg c10] at H
          exact absurd H (by simp)

/-- THE ONE PURE STATEMENT of silversidelaw03_LabelApart: yours. -/
def silversidelaw03_LabelApart.Pure : Prop := ∀ (a0 : ByteArray) (a1 : ByteArray) (a2 : Int), a0.size ≤ 140737488351232 → a1.size ≤ 140737488351232 → (Lit.int .i64 a2).wf = true → ∃ k, silversidelaw03_LabelApart.f k a0 a1 a2 = some true
theorem silversidelaw03_LabelApart.walk (P : silversidelaw03_LabelApart.Pure) (a0 : ByteArray) (a1 : ByteArray) (a2 : Int) (w : World) (w0 : a0.size ≤ 140737488351232) (w1 : a1.size ≤ 140737488351232) (w2 : (Lit.int .i64 a2).wf = true) :
    Calls Try.prog 7 #[.string a0, .string a1, .int .i64 a2] w fun e w' => e = .returned (.bool true) ∧ Below w.heap.size w w' := by
  obtain ⟨k, h⟩ := P a0 a1 a2 w0 w1 w2
  refine (silversidelaw03_LabelApart.calls k a0 a1 a2 true w h).mono ?_
  rintro e w' ⟨rfl, hd⟩
  exact ⟨rfl, hd⟩

end Go.Proofs.Ytdgjanjoiabgfaa.Q
