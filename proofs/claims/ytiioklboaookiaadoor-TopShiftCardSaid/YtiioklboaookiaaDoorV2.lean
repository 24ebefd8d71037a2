/- A part of the proof: what the law's row needs. -/
import Derived.Test.YtiioklboaookiaaDoorV1
namespace Go.Proofs.YtiioklboaookiaaDoor.Q
open Go.RowKit Go.Proofs.YtiioklboaookiaaDoorW.PrintWords Go.Proofs.YtiioklboaookiaaDoorW.PrintLast Go.Proofs.YtiioklboaookiaaDoor.Hand Go.Proofs.YtiioklboaookiaaDoorW.PrintMore
attribute [local go_sem] max2_int min2_int max_two min_two max_three min_three max_four min_four
set_option linter.unusedVariables false
set_option linter.unusedSimpArgs false
def carve_steps.l0 : Nat → List (S72) → List (List (S72)) → Int → Int → Option ((List (S72)))
 | 0, _, _, _, _ => none
 | k + 1, x5, x10, x11, x12 => if x12 < x11 then (if 0 ≤ x12 then (if x12 < (x10.length : Int) then (if x5.length + (rd_L3 x10 x12).length < 8796093022208 then (carve_steps.l0 k (x5 ++ (rd_L3 x10 x12)) x10 x11 (wrap64 (x12 + 1))) else (none)) else (none)) else (none)) else (some x5)
def carve_steps.f (k : Nat) (a0_0 : Int) (a0_1 : Int) (l1 : List (List (S72))) : Option ((List (S72))) := carve_steps.l0 k (([(⟨a0_0, a0_1⟩ : S72)] : List (S72))) l1 (l1.length : Int) 0
theorem carve_steps.mono_l : ∀ k, (∀ y0 y1 y2 y3, LeO (carve_steps.l0 k y0 y1 y2 y3) (carve_steps.l0 (k + 1) y0 y1 y2 y3))
 | 0 => fun _ _ _ _ r h => by simp [carve_steps.l0] at h
 | k + 1 => by
  have ih0 := carve_steps.mono_l k
  ·intro y0 y1 y2 y3
   unfold carve_steps.l0
   repeat' first
   | (with_reducible exact ih0 _ _ _ _)
   | (with_reducible exact LeO.refl _)
   | (with_reducible exact LeO.none _)
   | (with_reducible refine LeO.ite ?_ ?_)
   | (with_reducible refine LeO.bind ?_ (fun _ => ?_))
   | exact ih0 _ _ _ _
   | exact LeO.none _
   | refine LeO.ite ?_ ?_
   | refine LeO.bind ?_ (fun _ => ?_)
theorem carve_steps.mono : ∀ a0 a1 a2 k, LeO (carve_steps.f k a0 a1 a2) (carve_steps.f (k + 1) a0 a1 a2) := by
 intro a0 a1 a2 k
 have ih0 := carve_steps.mono_l k
 unfold carve_steps.f
 repeat' first
   | (with_reducible exact ih0 _ _ _ _)
   | (with_reducible exact LeO.refl _)
   | (with_reducible exact LeO.none _)
   | (with_reducible refine LeO.ite ?_ ?_)
   | (with_reducible refine LeO.bind ?_ (fun _ => ?_))
   | exact ih0 _ _ _ _
   | exact LeO.none _
   | refine LeO.ite ?_ ?_
   | refine LeO.bind ?_ (fun _ => ?_)
set_option maxHeartbeats 8000000 in
set_option maxRecDepth 100000 in
theorem carve_steps.calls (k : Nat) (a0_0 : Int) (a0_1 : Int) (A1 : Option Addr) (c1 : Nat) (l1 : List (List (S72))) (r : List (S72)) (w : World) (hr1 : Kd.C (Kd.slice 72 k72) w A1 l1.length l1) (hc1 : l1.length ≤ c1) (h : carve_steps.f k a0_0 a0_1 l1 = some r) :
  Calls Tryd.prog 35 #[.agg #[.int .i64 a0_0, .int .i64 a0_1], .slice A1 l1.length c1] w fun e w' => ∃ v0_ : Value, e = .returned (v0_) ∧ Kd.R k72 72 w' w.heap.size (fun _ => True) v0_ r ∧ Below w.heap.size w w' := by
 have hu72 := Tryd.underlying72
 have HR1 := Aside0.mk hr1
 have HC1 := Aside0.mk hc1
 clear hr1 hc1
 have HB := Aside0.mk (Below.refl w.heap.size w)
 have H : (carve_steps.l0 k (([(⟨a0_0, a0_1⟩ : S72)] : List (S72))) l1 (l1.length : Int) 0) = some r := h
 clear h
 obtain ⟨y123, hy123⟩ : ∃ y_ : List (S72), y_ = (([(⟨a0_0, a0_1⟩ : S72)] : List (S72))) := ⟨_, rfl⟩
 replace H : (carve_steps.l0 k y123 l1 (l1.length : Int) 0) = some r := by first | (rw [hy123]; with_reducible exact H) | (have H2_ := (Option.bind_some _ _).symm.trans H; rw [hy123]; with_reducible exact H2_) | (have H2_ := (Option.bind_some _ _).symm.trans H; with_reducible exact H2_) | with_reducible exact H | (rw [hy123]; exact H) | exact H
 have Ny123 := Aside0.mk hy123
 clear hy123
 have H' := Aside0.mk H
 clear H
 go_enter Tryd.func35, Tryd.ntmps35
 go_wp2_with (first | ((with_reducible refine gate_dst (N := 2) rfl ?_); refine box_event ?hg (N := 2) ?hd (cs := #[.int .i64 a0_0, .int .i64 a0_1]) (t := 72) ?hr ?_; (case hd => rfl); (case hg => rfl); (case hr => first | (go_simp; done) | (go_simp; rfl)); intro gb122 hg w3 hbox hb; have n0_ := Aside0.mk (below_step (by repeat (first | (with_reducible first | exact HB.out | apply below_alloc | apply pw_below_drewN | apply below_drew1) | exact HB.out)) hb); have n1_ := Aside0.mk (hbox); have n2_ := Aside0.mk ((by rw [hg]; exact (below_size (by repeat (first | (with_reducible first | exact HB.out | apply below_alloc | apply pw_below_drewN | apply below_drew1) | exact HB.out))) : w.heap.size ≤ gb122)); have n3_ := Aside0.mk ((by rw [hg]; exact (below_size (by repeat (first | (with_reducible first | exact HB.out | apply below_alloc | apply pw_below_drewN | apply below_drew1) | exact HB.out))) : w.heap.size ≤ gb122)); clear HB; have HB := n0_; have BK122 := n1_; have GW122 := n2_; have GE122 := n3_; clear n0_ n1_ n2_ n3_; clear hb hbox hg; have hcz4_0 : w3.cell? ⟨gb122, 0, none⟩ = some (.int .i64 a0_0) := (blk_cell BK122.out 0).trans rfl; have hcz4_1 : w3.cell? ⟨gb122, 1, none⟩ = some (.int .i64 a0_1) := (blk_cell BK122.out 1).trans rfl; have hfz4_0 := blk_frozen BK122.out 0; have hfz4_1 := blk_frozen BK122.out 1) | ((with_reducible refine gate_dst (N := 9) rfl ?_); refine Kd.R_lit k72 _ 72 ?hg (N := 9) ?hd (xs := ([(⟨a0_0, a0_1⟩ : S72)] : List (S72))) (inner := [.int .i64 a0_0, .int .i64 a0_1]) (ok := fun _ => True) (okp := fun _ => True) ?hr ?hp (fun _ hk => hk) trivial (Below.refl _ _) (Nat.le_refl _) (by simp) ?_; (case hd => rfl); (case hg => rfl); (case hr => first | (go_simp; done) | (go_simp; rfl)); (case hp => exact (Reps.c2 (show Kd.M k72 _ _ _ (⟨a0_0, a0_1⟩ : S72) [.int .i64 a0_0, .int .i64 a0_1] from (k72_mkM _ _ _ (⟨a0_0, a0_1⟩ : S72) )) (Reps.none _ _))); intro v124 w5 ho6 hb hg_ hnew_; clear hg_ hnew_; (first | rw [← Ny123.out] at ho6 | (simp only [Int.reduceToNat] at ho6; rw [← Ny123.out] at ho6)); have n0_ := Aside0.mk (Kd.R_lower (Kd.R_newB ho6 (g := gb122) (o := .cells #[.int .i64 a0_0, .int .i64 a0_1] 72 (0, 0)) (by (with_reducible repeat (first | refine blk_drewN ?_ _ | refine blk_drew ?_ | refine blk_alloc ?_ _)); exact BK122.out)) (below_size (by repeat (first | (with_reducible first | exact HB.out | apply below_alloc | apply pw_below_drewN | apply below_drew1 | refine below_set ?_ GE122.out) | exact HB.out)))); have n1_ := Aside0.mk (blk_below (g := gb122) (o := .cells #[.int .i64 a0_0, .int .i64 a0_1] 72 (0, 0)) (by (with_reducible repeat (first | refine blk_drewN ?_ _ | refine blk_drew ?_ | refine blk_alloc ?_ _)); exact BK122.out) hb); have n2_ := Aside0.mk (below_step (by repeat (first | (with_reducible first | exact HB.out | apply below_alloc | apply pw_below_drewN | apply below_drew1 | refine below_set ?_ GE122.out) | exact HB.out)) hb); clear BK122; clear HB; have HO125 := n0_; have BK122 := n1_; have HB := n2_; clear n0_ n1_ n2_; clear hb ho6))
 go_loopg [5, 12] k (fun kq v5 v12 w' => ∃ (x5_1 : List (S72)) (x12_1 : Int), v12 = .int .i64 x12_1 ∧ Aside0 (carve_steps.l0 kq x5_1 l1 (l1.length : Int) x12_1 = some r) ∧ Aside0 (kq ≤ k) ∧ Aside0 (Kd.R k72 72 w' w.heap.size (fun k_ => k_ ≠ gb122) v5 x5_1) ∧ Aside0 (w'.heap[gb122]? = some (.cells #[.int .i64 a0_0, .int .i64 a0_1] 72 (0, 0))) ∧ Aside0 (Below w.heap.size w w'))
 case atStart => exact ⟨(y123), (0), (by first | rfl | (simp; done) | (simp [*]; done)), H', ⟨Nat.le_refl _⟩, ⟨by (with_reducible repeat (first | apply Kd.R_alloc | apply Kd.R_drewN | apply Kd.R_drew)); exact Kd.R_mono HO125.out (fun _ hk => hk.2)⟩, ⟨by (with_reducible repeat (first | refine blk_drewN ?_ _ | refine blk_drew ?_ | refine blk_alloc ?_ _)); exact BK122.out⟩, ⟨by repeat (first | (with_reducible first | exact HB.out | apply below_alloc | apply pw_below_drewN | apply below_drew1 | refine below_set ?_ GE122.out) | exact HB.out)⟩⟩
 case round =>
  clear H'
  try clear c1
  try clear c2
  try clear p2
  try clear c3
  try clear hcz4_0
  try clear hcz4_1
  try clear hfz4_0
  try clear hfz4_1
  obtain ⟨x5_1, x12_1, rfl, HA, HK1, HO_5, BK122, HB⟩ := hrel
  cases gk with
  | zero => exact absurd HA.out (by simp [carve_steps.l0])
  | succ k1 =>
   have H := HA.out
   clear HA
   simp only [carve_steps.l0] at H
   by_cases c7 : x12_1 < (l1.length : Int)
   ·rw [if_pos c7] at H
    have c7b0 : decide (x12_1 < (l1.length : Int)) = true := decide_eq_true c7
    clear c7
    by_cases c8 : 0 ≤ x12_1
    ·rw [if_pos c8] at H
     have c8b0 : decide (0 ≤ x12_1) = true := decide_eq_true c8
     clear c8
     by_cases c9 : x12_1 < (l1.length : Int)
     ·rw [if_pos c9] at H
      have c9b0 : decide (x12_1 < (l1.length : Int)) = true := decide_eq_true c9
      clear c9
      by_cases c10 : x5_1.length + (rd_L3 l1 x12_1).length < 8796093022208
      ·rw [if_pos c10] at H
       have LMc10 := Aside0.mk c10
       clear c10
       obtain ⟨y127, hy127⟩ : ∃ y_ : List (S72), y_ = (x5_1 ++ (rd_L3 l1 x12_1)) := ⟨_, rfl⟩
       replace H : (carve_steps.l0 k1 y127 l1 (l1.length : Int) (wrap64 (x12_1 + 1))) = some r := by first | (rw [hy127]; with_reducible exact H) | (have H2_ := (Option.bind_some _ _).symm.trans H; rw [hy127]; with_reducible exact H2_) | (have H2_ := (Option.bind_some _ _).symm.trans H; with_reducible exact H2_) | with_reducible exact H | (rw [hy127]; exact H) | exact H
       have Ny127 := Aside0.mk hy127
       clear hy127
       have H' := Aside0.mk H
       clear H
       have p126 : 0 ≤ (x12_1 : Int) := of_decide_eq_true (by first | (with_reducible assumption) | assumption)
       have q126 : x12_1 < (l1.length : Int) := of_decide_eq_true (by first | (with_reducible assumption) | assumption)
       obtain ⟨ad126, A126_0, c126_0, e126, hx126_0, hl126_0, hi126_0⟩ := at_L3 HR1.out x12_1 p126 q126
       cases e126
       replace hx126_0 := (HB.out.cell (World.block_lt_of_cell? w _ hx126_0)).trans hx126_0
       have HR126_0 := Aside0.mk hi126_0
       have HC126_0 := Aside0.mk hl126_0
       clear hi126_0 hl126_0
       replace p126 := eq_true p126
       replace q126 := eq_true q126
       go_wp2_with (first | ((with_reducible refine gate_builtin (b := .append) (xs := #[.tmp 16, .tmp 17]) rfl ?_); at_builtin; refine Kd.R_append_rows k72 (w0 := w) w.heap.size rfl (.tmp 16) (.tmp 17) 42 72 (.agg #[(.int .i64 0), (.int .i64 0)]) 16 rfl Tryd.underlying42 info72 rfl (by decide) (by omega) u5 x5_1 (rd_L3 l1 x12_1) _ _ _ (fun k_ => k_ ≠ gb122) (fun _ => False) rfl rfl ?aO ?aR (fun _ _ h => h) (fun _ h => h.elim) ?aF ?aB ?aS ?aL ?_; (case aR => repeat (first | exact (Kd.C_below HR126_0.out HB.out) | (with_reducible refine Kd.C_alloc ?_ _) | (with_reducible refine Kd.C_drewN ?_ _) | (with_reducible refine Kd.C_drew ?_))); (case aB => exact (by repeat (first | (with_reducible first | exact HB.out | apply below_alloc | apply pw_below_drewN | apply below_drew1 | refine below_set ?_ GE122.out) | exact HB.out))); (case aF => exact (fun k_ hk => Kd.freshB (g := gb122) (o := .cells #[.int .i64 a0_0, .int .i64 a0_1] 72 (0, 0)) (by (with_reducible repeat (first | refine blk_drewN ?_ _ | refine blk_drew ?_ | refine blk_alloc ?_ _)); exact BK122.out) k_ hk)); (case aO => exact (by (with_reducible repeat (first | apply Kd.R_alloc | apply Kd.R_drewN | apply Kd.R_drew)); exact HO_5.out)); (case aS => exact (below_size (by repeat (first | (with_reducible first | exact HB.out | apply below_alloc | apply pw_below_drewN | apply below_drew1 | refine below_set ?_ GE122.out) | exact HB.out)))); (case aL => have := LMc10.out; omega); intro v128 w11 ho hb hg hat; rw [← Ny127.out] at ho; have n0_ := Aside0.mk (blk_grown (g := gb122) (o := .cells #[.int .i64 a0_0, .int .i64 a0_1] 72 (0, 0)) (by (with_reducible repeat (first | refine blk_drewN ?_ _ | refine blk_drew ?_ | refine blk_alloc ?_ _)); exact BK122.out) hg (Kd.R_away HO_5.out (fun _ hk => hk))); have n1_ := Aside0.mk (hb); have n2_ := Aside0.mk (ho); clear BK122; clear HB; clear HO_5; have BK122 := n0_; have HB := n1_; have HO129 := n2_; clear n0_ n1_ n2_; clear ho hb hg hat))
       go_roundg k1
       case measure => have := HK1.out; omega
       case rel => exact ⟨(y127), (wrap64 (x12_1 + 1)), (by first | rfl | (simp; done) | (simp [*]; done)), H', ⟨by have := HK1.out; omega⟩, ⟨by (with_reducible repeat (first | apply Kd.R_alloc | apply Kd.R_drewN | apply Kd.R_drew)); exact HO129.out⟩, ⟨by (with_reducible repeat (first | refine blk_drewN ?_ _ | refine blk_drew ?_ | refine blk_alloc ?_ _)); exact BK122.out⟩, ⟨by repeat (first | (with_reducible first | exact HB.out | apply below_alloc | apply pw_below_drewN | apply below_drew1 | refine below_set ?_ GE122.out) | exact HB.out)⟩⟩
      ·rw [if_neg c10] at H
       exact absurd H (by simp)
     ·rw [if_neg c9] at H
      exact absurd H (by simp)
    ·rw [if_neg c8] at H
     exact absurd H (by simp)
   ·rw [if_neg c7] at H
    have c7b0 : decide (x12_1 < (l1.length : Int)) = false := decide_eq_false c7
    clear c7
    obtain rfl := Option.some.inj H
    go_wp2
    go_ret
    exact ⟨_, by first | rfl | (simp [errW_none, errW_some] <;> rfl) | (simp [*, errW_none, errW_some] <;> rfl), by (with_reducible repeat (first | apply Kd.R_alloc | apply Kd.R_drewN | apply Kd.R_drew)); exact Kd.R_mono HO_5.out (fun _ hk => trivial), by repeat (first | (with_reducible first | exact HB.out | apply below_alloc | apply pw_below_drewN | apply below_drew1 | refine below_set ?_ GE122.out) | exact HB.out)⟩
end Go.Proofs.YtiioklboaookiaaDoor.Q
namespace Go.Proofs.YtiioklboaookiaaDoor.Q
open Go.RowKit Go.Proofs.YtiioklboaookiaaDoorW.PrintWords Go.Proofs.YtiioklboaookiaaDoorW.PrintLast Go.Proofs.YtiioklboaookiaaDoor.Hand Go.Proofs.YtiioklboaookiaaDoorW.PrintMore
attribute [local go_sem] max2_int min2_int max_two min_two max_three min_three max_four min_four
set_option linter.unusedVariables false
set_option linter.unusedSimpArgs false
def label_isParameters.f (a0 : Int) (a1 : Int) : Option (Bool) := if a1 ≥ 0 then (if a1 ≤ 64 then (if a0 ≥ (wrap64 (a1 + 1)) then (some (decide (a0 ≤ 255))) else (some false)) else (some false)) else (some false)
set_option maxHeartbeats 8000000 in
set_option maxRecDepth 100000 in
theorem label_isParameters.calls (a0 : Int) (a1 : Int) (r : Bool) (w : World) (h : label_isParameters.f a0 a1 = some r) :
  Calls Tryd.prog 22 #[.int .i64 a0, .int .i64 a1] w fun e w' => e = .returned (.bool r) ∧ Drawn0 w w' := by
 have H : (if a1 ≥ 0 then (if a1 ≤ 64 then (if a0 ≥ (wrap64 (a1 + 1)) then (some (decide (a0 ≤ 255))) else (some false)) else (some false)) else (some false)) = some r := h
 clear h
 by_cases c3 : a1 ≥ 0
 ·rw [if_pos c3] at H
  have c3b0 : decide (0 ≤ a1) = true := decide_eq_true c3
  clear c3
  by_cases c4 : a1 ≤ 64
  ·rw [if_pos c4] at H
   have c4b0 : decide (a1 ≤ 64) = true := decide_eq_true c4
   clear c4
   by_cases c5 : a0 ≥ (wrap64 (a1 + 1))
   ·rw [if_pos c5] at H
    have c5b0 : decide ((wrap64 (a1 + 1)) ≤ a0) = true := decide_eq_true c5
    clear c5
    obtain rfl := Option.some.inj H
    go_enter Tryd.func22, Tryd.ntmps22
    go_wp2
    go_ret
    exact ⟨by first | rfl | (simp; done) | (simp [*]; done), by repeat (first | exact Drawn0.refl _ | apply Drawn0.step)⟩
   ·rw [if_neg c5] at H
    have c5b0 : decide ((wrap64 (a1 + 1)) ≤ a0) = false := decide_eq_false c5
    clear c5
    obtain rfl := Option.some.inj H
    go_enter Tryd.func22, Tryd.ntmps22
    go_wp2
    go_ret
    exact ⟨by first | rfl | (simp; done) | (simp [*]; done), by repeat (first | exact Drawn0.refl _ | apply Drawn0.step)⟩
  ·rw [if_neg c4] at H
   have c4b0 : decide (a1 ≤ 64) = false := decide_eq_false c4
   clear c4
   obtain rfl := Option.some.inj H
   go_enter Tryd.func22, Tryd.ntmps22
   go_wp2
   go_ret
   exact ⟨by first | rfl | (simp; done) | (simp [*]; done), by repeat (first | exact Drawn0.refl _ | apply Drawn0.step)⟩
 ·rw [if_neg c3] at H
  have c3b0 : decide (0 ≤ a1) = false := decide_eq_false c3
  clear c3
  obtain rfl := Option.some.inj H
  go_enter Tryd.func22, Tryd.ntmps22
  go_wp2
  go_ret
  exact ⟨by first | rfl | (simp; done) | (simp [*]; done), by repeat (first | exact Drawn0.refl _ | apply Drawn0.step)⟩
def label_generator.l0 : Nat → List Int → Int → Int → Option (List Int)
 | 0, _, _, _ => none
 | k + 1, x3, x6, x7 => if x7 < x6 then ((label_exp.f x7).bind fun t317 => ((label_times.f x3 (([t317, 1] : List Int)) (wrap64 (x7 + 2))).bind fun t321 => (label_generator.l0 k t321 x6 (wrap64 (x7 + 1))))) else (some x3)
def label_generator.f (k : Nat) (a0 : Int) : Option (List Int) := label_generator.l0 k (([1] : List Int)) a0 0
theorem label_generator.mono_l : ∀ k, (∀ y0 y1 y2, LeO (label_generator.l0 k y0 y1 y2) (label_generator.l0 (k + 1) y0 y1 y2))
 | 0 => fun _ _ _ r h => by simp [label_generator.l0] at h
 | k + 1 => by
  have ih0 := label_generator.mono_l k
  ·intro y0 y1 y2
   unfold label_generator.l0
   repeat' first
   | (with_reducible exact ih0 _ _ _)
   | (with_reducible exact LeO.refl _)
   | (with_reducible exact LeO.none _)
   | (with_reducible refine LeO.ite ?_ ?_)
   | (with_reducible refine LeO.bind ?_ (fun _ => ?_))
   | exact ih0 _ _ _
   | exact LeO.none _
   | refine LeO.ite ?_ ?_
   | refine LeO.bind ?_ (fun _ => ?_)
theorem label_generator.mono : ∀ a0 k, LeO (label_generator.f k a0) (label_generator.f (k + 1) a0) := by
 intro a0 k
 have ih0 := label_generator.mono_l k
 unfold label_generator.f
 repeat' first
   | (with_reducible exact ih0 _ _ _)
   | (with_reducible exact LeO.refl _)
   | (with_reducible exact LeO.none _)
   | (with_reducible refine LeO.ite ?_ ?_)
   | (with_reducible refine LeO.bind ?_ (fun _ => ?_))
   | exact ih0 _ _ _
   | exact LeO.none _
   | refine LeO.ite ?_ ?_
   | refine LeO.bind ?_ (fun _ => ?_)
set_option maxHeartbeats 8000000 in
set_option maxRecDepth 100000 in
theorem label_generator.calls (k : Nat) (a0 : Int) (r : List Int) (w : World) (h : label_generator.f k a0 = some r) :
  Calls Tryd.prog 23 #[.int .i64 a0] w fun e w' => ∃ v0_ : Value, e = .returned (v0_) ∧ Kd.R (Kd.int .u8) 5 w' w.heap.size (fun _ => True) v0_ r ∧ Below w.heap.size w w' := by
 have HB := Aside0.mk (Below.refl w.heap.size w)
 have H : (label_generator.l0 k (([1] : List Int)) a0 0) = some r := h
 clear h
 obtain ⟨y314, hy314⟩ : ∃ y_ : List Int, y_ = (([1] : List Int)) := ⟨_, rfl⟩
 replace H : (label_generator.l0 k y314 a0 0) = some r := by first | (rw [hy314]; with_reducible exact H) | (have H2_ := (Option.bind_some _ _).symm.trans H; rw [hy314]; with_reducible exact H2_) | (have H2_ := (Option.bind_some _ _).symm.trans H; with_reducible exact H2_) | with_reducible exact H | (rw [hy314]; exact H) | exact H
 have Ny314 := Aside0.mk hy314
 clear hy314
 have H' := Aside0.mk H
 clear H
 go_enter Tryd.func23, Tryd.ntmps23
 go_wp2_with (first | ((with_reducible refine gate_dst (N := 5) rfl ?_); refine Kd.R_lit (Kd.int .u8) _ 5 ?hg (N := 5) ?hd (xs := ([1] : List Int)) (inner := [.int .u8 1]) (ok := fun _ => True) (okp := fun _ => True) ?hr ?hp (fun _ hk => hk) trivial (Below.refl _ _) (Nat.le_refl _) (by simp) ?_; (case hd => rfl); (case hg => rfl); (case hr => first | (go_simp; done) | (go_simp; rfl)); (case hp => exact (Reps.one (show Kd.M (Kd.int .u8) _ _ _ 1 [.int .u8 1] from rfl) (Reps.none _ _))); intro v315 w2 ho3 hb hg_ hnew_; clear hg_ hnew_; (first | rw [← Ny314.out] at ho3 | (simp only [Int.reduceToNat] at ho3; rw [← Ny314.out] at ho3)); have n0_ := Aside0.mk (Kd.R_lower ho3 (below_size (by repeat (first | (with_reducible first | exact HB.out | apply below_alloc | apply pw_below_drewN | apply below_drew1) | exact HB.out)))); have n1_ := Aside0.mk (below_step (by repeat (first | (with_reducible first | exact HB.out | apply below_alloc | apply pw_below_drewN | apply below_drew1) | exact HB.out)) hb); clear HB; have HO316 := n0_; have HB := n1_; clear n0_ n1_; clear hb ho3))
 go_loopg [3, 7] k (fun kq v3 v7 w' => ∃ (x3_1 : List Int) (x7_1 : Int), v7 = .int .i64 x7_1 ∧ Aside0 (label_generator.l0 kq x3_1 a0 x7_1 = some r) ∧ Aside0 (kq ≤ k) ∧ Aside0 (Kd.R (Kd.int .u8) 5 w' w.heap.size (fun _ => True) v3 x3_1) ∧ Aside0 (Below w.heap.size w w'))
 case atStart => exact ⟨(y314), (0), (by first | rfl | (simp; done) | (simp [*]; done)), H', ⟨Nat.le_refl _⟩, ⟨by (with_reducible repeat (first | apply Kd.R_alloc | apply Kd.R_drewN | apply Kd.R_drew)); exact HO316.out⟩, ⟨by repeat (first | (with_reducible first | exact HB.out | apply below_alloc | apply pw_below_drewN | apply below_drew1) | exact HB.out)⟩⟩
 case round =>
  clear H'
  try clear c2
  try clear p2
  obtain ⟨x3_1, x7_1, rfl, HA, HK1, HO_3, HB⟩ := hrel
  cases gk with
  | zero => exact absurd HA.out (by simp [label_generator.l0])
  | succ k1 =>
   have H := HA.out
   clear HA
   simp only [label_generator.l0] at H
   by_cases c4 : x7_1 < a0
   ·rw [if_pos c4] at H
    have c4b0 : decide (x7_1 < a0) = true := decide_eq_true c4
    clear c4
    replace H := Option.bind_eq_some_iff.mp H
    obtain ⟨t317, A50, H⟩ := H
    replace H : ((label_times.f x3_1 (([t317, 1] : List Int)) (wrap64 (x7_1 + 2))).bind fun t321 => (label_generator.l0 k1 t321 a0 (wrap64 (x7_1 + 1)))) = some r := H
    have A5 := Aside0.mk A50; (try simp only [Int.toNat_natCast] at A5)
    clear A50
    obtain ⟨y318, hy318⟩ : ∃ y_ : List Int, y_ = (([t317, 1] : List Int)) := ⟨_, rfl⟩
    replace H : ((label_times.f x3_1 y318 (wrap64 (x7_1 + 2))).bind fun t321 => (label_generator.l0 k1 t321 a0 (wrap64 (x7_1 + 1)))) = some r := by first | (rw [hy318]; with_reducible exact H) | (have H2_ := (Option.bind_some _ _).symm.trans H; rw [hy318]; with_reducible exact H2_) | (have H2_ := (Option.bind_some _ _).symm.trans H; with_reducible exact H2_) | with_reducible exact H | (rw [hy318]; exact H) | exact H
    have Ny318 := Aside0.mk hy318
    clear hy318
    replace H := Option.bind_eq_some_iff.mp H
    obtain ⟨t321, A60, H⟩ := H
    replace H : (label_generator.l0 k1 t321 a0 (wrap64 (x7_1 + 1))) = some r := H
    have A6 := Aside0.mk A60; (try simp only [Int.toNat_natCast] at A6)
    clear A60
    have H' := Aside0.mk H
    clear H
    go_wp2_with (first | ((with_reducible refine gate_callee (f := 40) rfl ?_); refine goesL_ (some 12) rfl rfl Tryd.func40 (by kernel_rfl) rfl #[.int .i64 x7_1] rfl (by (try simp only [List.map_toArray, List.map_cons, List.map_nil]); first | done | rfl | (simp only [List.length_drop, List.length_take]; rfl)) ?_; (with_reducible refine (label_exp.calls x7_1 t317 _ A5.out).mono ?_); rintro e w7 ⟨rfl, hb⟩; refine ⟨_, rfl, ?_⟩; have n0_ := Aside0.mk (Kd.R_below (by (with_reducible repeat (first | apply Kd.R_alloc | apply Kd.R_drewN | apply Kd.R_drew)); exact HO_3.out) hb); have n1_ := Aside0.mk (below_step (by repeat (first | (with_reducible first | exact HB.out | apply below_alloc | apply pw_below_drewN | apply below_drew1) | exact HB.out)) hb); clear HO_3; clear HB; have HO_3 := n0_; have HB := n1_; clear n0_ n1_; (try clear hb); (try clear hb2); (try clear hk); (try clear hi)) | ((with_reducible refine gate_dst (N := 13) rfl ?_); refine Kd.R_lit (Kd.int .u8) _ 5 ?hg (N := 13) ?hd (xs := ([t317, 1] : List Int)) (inner := [.int .u8 t317, .int .u8 1]) (ok := fun _ => True) (okp := fun _ => True) ?hr ?hp (fun _ hk => hk) trivial (Below.refl _ _) (Nat.le_refl _) (by simp) ?_; (case hd => rfl); (case hg => rfl); (case hr => first | (go_simp; done) | (go_simp; rfl)); (case hp => exact (Reps.one (show Kd.M (Kd.int .u8) _ _ _ t317 [.int .u8 t317] from rfl) (Reps.one (show Kd.M (Kd.int .u8) _ _ _ 1 [.int .u8 1] from rfl) (Reps.none _ _)))); intro v319 w8 ho9 hb hg_ hnew_; clear hg_ hnew_; (first | rw [← Ny318.out] at ho9 | (simp only [Int.reduceToNat] at ho9; rw [← Ny318.out] at ho9)); have n0_ := Aside0.mk (Kd.R_elder' (by (with_reducible repeat (first | apply Kd.R_alloc | apply Kd.R_drewN | apply Kd.R_drew)); exact HO_3.out) (Kd.R_base ho9) hb); have n1_ := Aside0.mk (Kd.R_lower (Kd.R_new' ho9 (Kd.R_lt (by (with_reducible repeat (first | apply Kd.R_alloc | apply Kd.R_drewN | apply Kd.R_drew)); exact HO_3.out))) (below_size (by repeat (first | (with_reducible first | exact HB.out | apply below_alloc | apply pw_below_drewN | apply below_drew1) | exact HB.out)))); have n2_ := Aside0.mk (below_step (by repeat (first | (with_reducible first | exact HB.out | apply below_alloc | apply pw_below_drewN | apply below_drew1) | exact HB.out)) hb); clear HO_3; clear HB; have HO_3 := n0_; have HO320 := n1_; have HB := n2_; clear n0_ n1_ n2_; clear hb ho9; obtain ⟨Ao10, co10, eo10⟩ := Kd.R_slice HO_3.out; subst eo10; obtain ⟨Ao11, co11, eo11⟩ := Kd.R_slice HO320.out; subst eo11) | ((with_reducible refine gate_callee (f := 39) rfl ?_); refine goesL_ (some 16) rfl rfl Tryd.func39 (by kernel_rfl) rfl #[.slice Ao10 x3_1.length co10, .slice Ao11 y318.length co11, .int .i64 (wrap64 (x7_1 + 2))] rfl (by (try simp only [List.map_toArray, List.map_cons, List.map_nil]); first | done | rfl | (simp only [List.length_drop, List.length_take]; rfl)) ?_; (with_reducible refine (label_times.calls _ _ x3_1 _ _ y318 (wrap64 (x7_1 + 2)) t321 _ ?side1 ?side2 ?side3 ?side4 A6.out).mono ?_); (case side1 => repeat (first | exact (Kd.R_reads' HO_3.out).2.2 | (with_reducible refine Kd.C_alloc ?_ _) | (with_reducible refine Kd.C_drewN ?_ _) | (with_reducible refine Kd.C_drew ?_))); (case side2 => exact (Kd.R_reads' HO_3.out).2.1); (case side3 => repeat (first | exact (Kd.R_reads' HO320.out).2.2 | (with_reducible refine Kd.C_alloc ?_ _) | (with_reducible refine Kd.C_drewN ?_ _) | (with_reducible refine Kd.C_drew ?_))); (case side4 => exact (Kd.R_reads' HO320.out).2.1); rintro e w12 ⟨v322, rfl, ho0, hb⟩; refine ⟨_, rfl, ?_⟩; have n0_ := Aside0.mk (Kd.R_elder' (by (with_reducible repeat (first | apply Kd.R_alloc | apply Kd.R_drewN | apply Kd.R_drew)); exact HO_3.out) (Kd.R_base ho0) hb); have n1_ := Aside0.mk (Kd.R_elder' (by (with_reducible repeat (first | apply Kd.R_alloc | apply Kd.R_drewN | apply Kd.R_drew)); exact HO320.out) (Kd.R_base ho0) hb); have n2_ := Aside0.mk (Kd.R_lower (Kd.R_new' (Kd.R_new' ho0 (Kd.R_lt (by (with_reducible repeat (first | apply Kd.R_alloc | apply Kd.R_drewN | apply Kd.R_drew)); exact HO_3.out))) (Kd.R_lt (by (with_reducible repeat (first | apply Kd.R_alloc | apply Kd.R_drewN | apply Kd.R_drew)); exact HO320.out))) (below_size (by repeat (first | (with_reducible first | exact HB.out | apply below_alloc | apply pw_below_drewN | apply below_drew1) | exact HB.out)))); have n3_ := Aside0.mk (below_step (by repeat (first | (with_reducible first | exact HB.out | apply below_alloc | apply pw_below_drewN | apply below_drew1) | exact HB.out)) hb); clear HO_3; clear HO320; clear HB; have HO_3 := n0_; have HO320 := n1_; have HO323 := n2_; have HB := n3_; clear n0_ n1_ n2_ n3_; (try clear hb); (try clear hb2); (try clear hk); (try clear hi); (try clear ho0)))
    go_roundg k1
    case measure => have := HK1.out; omega
    case rel => exact ⟨(t321), (wrap64 (x7_1 + 1)), (by first | rfl | (simp; done) | (simp [*]; done)), H', ⟨by have := HK1.out; omega⟩, ⟨by (with_reducible repeat (first | apply Kd.R_alloc | apply Kd.R_drewN | apply Kd.R_drew)); exact Kd.R_mono HO323.out (fun _ hk => trivial)⟩, ⟨by repeat (first | (with_reducible first | exact HB.out | apply below_alloc | apply pw_below_drewN | apply below_drew1) | exact HB.out)⟩⟩
   ·rw [if_neg c4] at H
    have c4b0 : decide (x7_1 < a0) = false := decide_eq_false c4
    clear c4
    obtain rfl := Option.some.inj H
    go_wp2
    go_ret
    exact ⟨_, by first | rfl | (simp [errW_none, errW_some] <;> rfl) | (simp [*, errW_none, errW_some] <;> rfl), by (with_reducible repeat (first | apply Kd.R_alloc | apply Kd.R_drewN | apply Kd.R_drew)); exact HO_3.out, by repeat (first | (with_reducible first | exact HB.out | apply below_alloc | apply pw_below_drewN | apply below_drew1) | exact HB.out)⟩
def encK (g : List Int) (p i : Nat) (lead : Int) : Nat → Nat → List Int → List Int
 | 0, _, rest => rest
 | m + 1, k, rest => encK g p i lead m (k + 1) (rest.set (i + 1 + k) (Go.bits .xor .u8 (rd rest (i + 1 + k : Nat)) (Rs.mulN lead.toNat (rd g (p - 1 - k : Nat)).toNat : Nat)))
def encI (g : List Int) (p : Nat) : Nat → Nat → List Int → List Int
 | 0, _, rest => rest
 | m + 1, i, rest => encI g p m (i + 1) (encK g p i (rd rest i) p 0 rest)
def label_Encode.f (k : Nat) (a0 : ByteArray) (a1 : Int) : Option (ByteArray × Int) :=
 if a1 < 0 then some (⟨#[]⟩, 2) else if a1 > 64 then some (⟨#[]⟩, 2) else
 (label_isParameters.f (wrap64 ((a0.size : Int) + a1)) a1).bind fun t => if t = true then
  ((label_generator.f k a1).bind fun g => if bytesB g = true ∧ (g.length : Int) = a1 + 1 ∧ a0.size ≤ 100000 ∧ 0 < a0.size then
   some (a0 ++ strOfNums ((encI g a1.toNat a0.size 0 (bytesOf a0 ++ List.replicate a1.toNat 0)).drop a0.size), 0) else none)
  else some (⟨#[]⟩, 2)
theorem label_Encode.mono : ∀ a0 a1 k, LeO (label_Encode.f k a0 a1) (label_Encode.f (k + 1) a0 a1) := by
 intro a0 a1 k
 unfold label_Encode.f
 repeat' first
   | (with_reducible exact label_generator.mono _ _)
   | (with_reducible exact LeO.refl _)
   | (with_reducible refine LeO.ite ?_ ?_)
   | (with_reducible refine LeO.bind ?_ (fun _ => ?_))
set_option maxHeartbeats 1000000 in
set_option maxRecDepth 100000 in
theorem enc_bad (a0 : ByteArray) (a1 : Int) (w : World) (h : a1 < 0 ∨ a1 > 64) :
  Calls Tryd.prog 13 #[.string a0, .int .i64 a1] w fun e w' => e = .returned (.tuple #[.string ⟨#[]⟩, .int .i64 2]) ∧ Below w.heap.size w w' := by
 by_cases h0 : a1 < 0
 ·have d0 : decide (a1 < 0) = true := decide_eq_true h0
  clear h h0
  go_enter Tryd.func13, Tryd.ntmps13
  go_wp2
  go_ret2
  exact ⟨rfl, Below.refl _ _⟩
 ·have d0 : decide (a1 < 0) = false := decide_eq_false h0
  have d1 : decide (64 < a1) = true := decide_eq_true (by omega)
  clear h h0
  go_enter Tryd.func13, Tryd.ntmps13
  go_wp2
  go_ret2
  exact ⟨rfl, Below.refl _ _⟩
set_option maxHeartbeats 1000000 in
set_option maxRecDepth 100000 in
theorem enc_no (a0 : ByteArray) (a1 : Int) (w : World) (h0 : 0 ≤ a1) (h1 : a1 ≤ 64) (hp : label_isParameters.f (wrap64 ((a0.size : Int) + a1)) a1 = some false) :
  Calls Tryd.prog 13 #[.string a0, .int .i64 a1] w fun e w' => e = .returned (.tuple #[.string ⟨#[]⟩, .int .i64 2]) ∧ Below w.heap.size w w' := by
 have d0 : decide (a1 < 0) = false := decide_eq_false (by omega)
 have d1 : decide (64 < a1) = false := decide_eq_false (by omega)
 obtain ⟨s, hs⟩ : ∃ s, wrap64 ((a0.size : Int) + a1) = s := ⟨_, rfl⟩
 have hs' : IntKind.i64.wrap ((a0.size : Int) + a1) = s := (i64_w _).trans hs
 rw [hs] at hp
 have HP := hid hp
 clear hp h0 h1
 go_enter Tryd.func13, Tryd.ntmps13
 go_wp2_with (go_at_call 22; refine (label_isParameters.calls _ _ false _ HP.out).mono ?_; rintro e w1 ⟨rfl, ⟨nd, rfl⟩⟩)
 go_ret2
 exact ⟨rfl, pw_below_drewN (Below.refl _ _) _⟩
def Gc (g2 : Nat) (gl : List Int) (w : World) : Prop := g2 < w.heap.size ∧ ∀ j, j < gl.length → w.cell? ⟨g2, j, none⟩ = some (.int .u8 (rd gl j))
theorem Gc.below {g2 : Nat} {gl : List Int} {w w1 : World} (h : Gc g2 gl w) (hb : Below w.heap.size w w1) : Gc g2 gl w1 := ⟨Nat.lt_of_lt_of_le h.1 hb.size, fun j hj => (hb.cell (p := ⟨g2, j, none⟩) h.1).trans (h.2 j hj)⟩
theorem Gc.far {g2 : Nat} {gl : List Int} {w : World} (h : Gc g2 gl w) {p : Addr} (hp : g2 ≠ p.block) (u : Value) : Gc g2 gl (w.setCell p u) :=
 ⟨by simpa using h.1, fun j hj => (World.cell?_setCell_other _ _ _ _ (fun e => hp (by rw [e]))).trans (h.2 j hj)⟩
set_option maxHeartbeats 8000000 in
set_option maxRecDepth 100000 in
theorem enc_walk (k0 : Nat) (a0 : ByteArray) (p : Nat) (gl : List Int) (w : World) (h1 : (p : Int) ≤ 64) (hp : label_isParameters.f (wrap64 ((a0.size : Int) + p)) p = some true) (hg : label_generator.f k0 p = some gl)
  (hgb : bytesB gl = true) (hgl : gl.length = p + 1) (hs0 : (a0.size : Int) ≤ 100000) (hs1 : 0 < (a0.size : Int)) :
  Calls Tryd.prog 13 #[.string a0, .int .i64 p] w fun e w' => e = .returned (.tuple #[.string (a0 ++ strOfNums ((encI gl p a0.size 0 (bytesOf a0 ++ List.replicate p 0)).drop a0.size)), .int .i64 0]) ∧ Below w.heap.size w w' := by
 have h0 : (0 : Int) ≤ (p : Int) := by omega
 have d0 : decide ((p : Int) < 0) = false := decide_eq_false (by omega)
 have d1 : decide (64 < (p : Int)) = false := decide_eq_false (by omega)
 have s1 : IntKind.i64.wrap ((a0.size : Int) + (p : Int)) = (a0.size : Int) + (p : Int) := IntWalk.i64_in _ (by omega)
 rw [w64_in _ (by omega) (by omega)] at hp
 have HP := hid hp
 have HG := hid hg
 have HGB := hid hgb
 have HGL := hid hgl
 clear hp hg hgb hgl
 go_enter Tryd.func13, Tryd.ntmps13
 go_wp2_with (first
  | (go_at_call 22; refine (label_isParameters.calls _ _ true _ HP.out).mono ?_; rintro e w1 ⟨rfl, ⟨nd, rfl⟩⟩)
  | (go_at_call 23; refine (label_generator.calls k0 _ gl _ HG.out).mono ?_; rintro e w1 ⟨vg, rfl, ho, hb⟩; have HOG := Aside0.mk ho; have HBG := Aside0.mk hb; clear ho hb)
  | ((with_reducible refine gate_dst (N := 32) rfl ?_); refine Kd.R_make (Kd.int .u8) _ 5 rfl (N := 32) rfl 84 _ _ rfl ((a0.size : Int) + (p : Int)) rfl rfl Tryd.underlying84 (.int .u8 0) 1 Tryd.infoU8 rfl (by decide) (by omega) 0 (ok := fun _ => True) (okp := fun _ => True) rfl (fun _ hk => hk) trivial (by omega) (by omega) (Below.refl _ _) (Nat.le_refl _) ?_; intro v1 w2 ho hb hg_ hnew_; clear hg_ hnew_; have HO1 := Aside0.mk ho; have HB1 := Aside0.mk hb; clear ho hb)
  | ((with_reducible refine gate_builtin (b := .copy) (xs := #[.tmp 33, .tmp 34]) rfl ?_); refine R_copy_str _ rfl (.tmp 33) (.tmp 34) 84 9 5 rfl Tryd.underlying84 (info_size Tryd.infoU8) v1 _ a0 (fun _ => True) rfl rfl HO1.out (by rw [List.length_replicate]; omega) HB1.out HB1.out.size ?_; intro w3 ho hb; have HO2 := Aside0.mk ho; have HB2 := Aside0.mk hb; clear ho hb))
 clear HP HG HO1
 have HL : Aside0 ((bytesOf a0 ++ (List.replicate ((a0.size : Int) + (p : Int)).toNat 0).drop a0.size) = bytesOf a0 ++ List.replicate p 0) := ⟨by rw [List.drop_replicate]; congr 2; omega⟩
 obtain ⟨n, hn⟩ : ∃ n : Nat, n = a0.size := ⟨_, rfl⟩
 have hbl : (bytesOf a0).length = n := by rw [bytesOf_length, hn]
 have hE1 : encI gl p n 0 (bytesOf a0 ++ List.replicate p 0) = encI gl p a0.size 0 (bytesOf a0 ++ List.replicate p 0) := by rw [hn]
 have hbb : bytesB (bytesOf a0 ++ List.replicate p 0) = true := bytesB_append (bytesB_bytesOf a0) (bytesB_zeros p)
 obtain ⟨R0, hR0⟩ : ∃ R0, R0 = bytesOf a0 ++ List.replicate p 0 := ⟨_, rfl⟩
 have hRl : R0.length = n + p := by rw [hR0, List.length_append, List.length_replicate, hbl]
 rw [HL.out, ← hR0] at HO2
 rw [← hR0] at hE1 hbb
 obtain ⟨fin, hfin⟩ : ∃ fin, fin = encI gl p a0.size 0 R0 := ⟨_, rfl⟩
 have HFIN := hid hfin
 have HE1 := hid (hE1.trans hfin.symm)
 have HBB := hid hbb
 have HR0 := hid hR0
 have HRL := hid hRl
 have HN := hid hn
 have hn1 : 0 < n := by omega
 have hn2 : (n : Int) ≤ 100000 := by omega
 have HSZ := hid (show (a0.size : Int) = n from by omega)
 clear hbl hE1 hbb hR0 hRl hfin HL hn
 obtain ⟨g1, c1, e1, hg1, hg1', _, _⟩ := Kd.R_form HO2.out (by rw [HRL.out]; omega)
 obtain ⟨g2, c2, e2, hg2, hg2', _, _⟩ := Kd.R_form HOG.out (by rw [HGL.out]; omega)
 cases e1
 cases e2
 have hgc1 : Gc g2 gl w1 := ⟨hg2', fun j hj => by have := (Kd.R_celln (0 : Int) HOG.out (j : Int) (by omega) (by omega)).1; rwa [Int.toNat_natCast] at this⟩
 have hgc : Gc g2 gl w3 := ⟨Nat.lt_of_lt_of_le hg2' HB2.out.size, fun j hj => (HB2.out.cell (p := ⟨g2, j, none⟩) hg2').trans (hgc1.2 j hj)⟩
 have HGC := Aside0.mk hgc
 have gne : g2 ≠ g1 := by omega
 have hbw : Below w.heap.size w w3 := ((pw_below_drewN (Below.refl _ _) nd).trans (HBG.out.mono (by simp [World.drewN]))).trans (HB2.out.mono (Nat.le_trans (by simp [World.drewN]) HBG.out.size))
 have hw1 : w.heap.size ≤ w1.heap.size := Nat.le_trans (by simp [World.drewN]) HBG.out.size
 have HBW := Aside0.mk hbw
 clear hgc1 hgc HOG HBG HB1 HB2 hbw
 rw [HRL.out, HGL.out, HSZ.out]
 go_loopg [38] n (fun kq v38 w' => ∃ (i : Nat) (l : List Int), v38 = .int .i64 i ∧ i + kq = n ∧ Aside0 (encI gl p (n - i) i l = fin) ∧ Aside0 (l.length = n + p) ∧ Aside0 (bytesB l = true) ∧ Aside0 (Kd.R (Kd.int .u8) 5 w' w.heap.size (fun _ => True) (.slice (some ⟨g1, 0, none⟩) (n + p) c1) l) ∧ Aside0 (Gc g2 gl w') ∧ Aside0 (Below w.heap.size w w'))
 case atStart => exact ⟨0, R0, rfl, by omega, ⟨HE1.out⟩, ⟨HRL.out⟩, ⟨HBB.out⟩, ⟨Kd.R_lower (by have := HO2.out; rwa [HRL.out] at this) hw1⟩, HGC, HBW⟩
 case round =>
  clear HO2 HGC HBW hg2'
  obtain ⟨i, l, rfl, hi, HT, HL, HLB, HO, HGC, HB⟩ := hrel
  by_cases hlt : i < n
  ·have d2 : decide ((i : Int) < (n : Int)) = true := decide_eq_true (by omega)
   obtain ⟨hc9, _⟩ := Kd.R_celln 0 HO.out (i : Int) (by omega) (by omega)
   rw [Int.toNat_natCast] at hc9
   obtain ⟨ld, hld⟩ : ∃ ld, ld = rdOf 0 l (i : Int) := ⟨_, rfl⟩
   rw [← hld] at hc9
   have HLD0 := hid hld
   have HLD := hid (show in8 ld = true by rw [hld]; exact bytesB_rd HLB.out i (by rw [HL.out]; omega))
   clear hld
   have i1 : (i : Int) < (n : Int) + (p : Int) := by omega
   have i0 : (0 : Int) ≤ (i : Int) := by omega
   go_wp2
   clear hc9
   go_loopg [46] p (fun kq v46 w' => ∃ (k : Nat) (l : List Int), v46 = .int .i64 k ∧ k + kq = p ∧ Aside0 (encI gl p (n - (i + 1)) (i + 1) (encK gl p i ld (p - k) k l) = fin) ∧ Aside0 (l.length = n + p) ∧ Aside0 (bytesB l = true) ∧ Aside0 (Kd.R (Kd.int .u8) 5 w' w.heap.size (fun _ => True) (.slice (some ⟨g1, 0, none⟩) (n + p) c1) l) ∧ Aside0 (Gc g2 gl w') ∧ Aside0 (Below w.heap.size w w'))
   case atStart => exact ⟨0, l, rfl, by omega, ⟨by have h := HT.out; rw [show n - i = (n - (i + 1)) + 1 from by omega] at h; rw [HLD0.out]; exact h⟩, HL, HLB, HO, HGC, HB⟩
   case round =>
    clear HT HL HLB HO HGC HB
    obtain ⟨k, l, rfl, hk, HT, HL, HLB, HO, HGC, HB⟩ := hrel
    by_cases hkt : k < p
    ·have d3 : decide ((k : Int) < (p : Int)) = true := decide_eq_true (by omega)
     obtain ⟨hz0, hf0⟩ := Kd.R_celln 0 HO.out ((i + 1 + k : Nat) : Int) (by omega) (by omega)
     rw [Int.toNat_natCast] at hz0 hf0
     obtain ⟨q, hq⟩ : ∃ q : Nat, q = p - 1 - k := ⟨_, rfl⟩
     have hqg := HGC.out.2 q (by rw [HGL.out]; omega)
     have X1 := Aside0.mk (show World.cell? wr.drew _ = _ from hz0)
     have X2 := Aside0.mk (show World.cell? wr.drew _ = _ from hqg)
     have X3 := Aside0.mk (show World.frozen? wr.drew _ = _ from hf0)
     clear hz0 hf0 hqg
     have e0 : (0 : Int) ≤ (i : Int) + 1 + (k : Int) := by omega
     have e1 : (i : Int) + 1 + (k : Int) < (n : Int) + (p : Int) := by omega
     have e2 : ((i : Int) + 1 + (k : Int)).toNat = i + 1 + k := by omega
     have e3 : (0 : Int) ≤ (p : Int) - 1 - (k : Int) := by omega
     have e4 : (p : Int) - 1 - (k : Int) < (p : Int) + 1 := by omega
     have e5 : ((p : Int) - 1 - (k : Int)).toNat = q := by omega
     have hqp : q + 1 ≤ p := by omega
     have e6 : (k : Int) ≤ (p : Int) - 1 := by omega
     have HQ := hid hq
     have HGN : Hid (q < gl.length) := by show _ < _; rw [HGL.out]; omega
     clear hq
     go_wp2
     obtain ⟨y1, y2, y3, y4⟩ : wrap64 ((i : Int) + 1) = (i : Int) + 1 ∧ wrap64 ((i : Int) + 1 + (k : Int)) = (i : Int) + 1 + (k : Int) ∧ wrap64 ((p : Int) - 1) = (p : Int) - 1 ∧ wrap64 ((p : Int) - 1 - (k : Int)) = (p : Int) - 1 - (k : Int) := ⟨w64_in _ (by omega) (by omega), w64_in _ (by omega) (by omega), w64_in _ (by omega) (by omega), w64_in _ (by omega) (by omega)⟩
     refine start_ (n := 19) (S := fun w' => w'.cell? ⟨g1, i + 1 + k, none⟩ = some (.int .u8 (rdOf 0 l ((i + 1 + k : Nat) : Int))) ∧ w'.cell? ⟨g2, q, none⟩ = some (.int .u8 (rd gl q))) (ds := [18]) #[false, false, false, false, false, false, false, false, false, false, false, false, false, false, false, false, false, false, false] (by kernel_rfl) rfl rfl ⟨X1.out, X2.out⟩ (fun hHeld => ?_)
     refine pure_ (i := 0) (N := some 49) (v := ?_) (a' := ?_) #[true, false, false, false, false, false, false, false, false, false, false, false, false, false, false, false, false, false, false] rfl rfl (by kernel_rfl) (fun _ _ _ h => h) (Or.inl ⟨by rfl, ?_⟩) ?_ ?_
     rotate_left
     ·intro w'
      go_simp
      with_reducible rfl
     rotate_left
     ·simp only [Act.put, List.setIfInBounds_toArray, List.set_cons_zero, List.set_cons_succ, i64_w, i32_w]
      rfl
     refine pure_ (i := 1) (N := some 50) (v := ?_) (a' := ?_) #[true, true, false, false, false, false, false, false, false, false, false, false, false, false, false, false, false, false, false] rfl rfl (by kernel_rfl) (fun _ _ _ h => h) (Or.inl ⟨by rfl, ?_⟩) ?_ ?_
     rotate_left
     ·intro w'
      go_simp
      with_reducible rfl
     rotate_left
     ·simp only [Act.put, List.setIfInBounds_toArray, List.set_cons_zero, List.set_cons_succ, i64_w, i32_w]
      rfl
     refine pure_ (i := 2) (N := some 51) (v := ?_) (a' := ?_) #[true, true, true, false, false, false, false, false, false, false, false, false, false, false, false, false, false, false, false] rfl rfl (by kernel_rfl) (fun _ _ _ h => h) (Or.inl ⟨by rfl, ?_⟩) ?_ ?_
     rotate_left
     ·intro w'
      go_simp
      with_reducible rfl
     rotate_left
     ·simp only [Act.put, List.setIfInBounds_toArray, List.set_cons_zero, List.set_cons_succ, i64_w, i32_w]
      rfl
     refine pure_ (i := 3) (N := some 52) (v := ?_) (a' := ?_) #[true, true, true, true, false, false, false, false, false, false, false, false, false, false, false, false, false, false, false] rfl rfl (by kernel_rfl) (fun _ _ _ h => h) (Or.inl ⟨by rfl, ?_⟩) ?_ ?_
     rotate_left
     ·intro w'
      go_simp
      with_reducible rfl
     rotate_left
     ·simp only [Act.put, List.setIfInBounds_toArray, List.set_cons_zero, List.set_cons_succ, i64_w, i32_w]
      rfl
     refine pure_ (i := 4) (N := some 53) (v := ?_) (a' := ?_) #[true, true, true, true, true, false, false, false, false, false, false, false, false, false, false, false, false, false, false] rfl rfl (by kernel_rfl) (fun _ _ _ h => h) (Or.inl ⟨by rfl, ?_⟩) ?_ ?_
     rotate_left
     ·intro w'
      go_simp
      with_reducible rfl
     rotate_left
     ·simp only [Act.put, List.setIfInBounds_toArray, List.set_cons_zero, List.set_cons_succ, i64_w, i32_w]
      rfl
     refine pure_ (i := 5) (N := some 54) (v := ?_) (a' := ?_) #[true, true, true, true, true, true, false, false, false, false, false, false, false, false, false, false, false, false, false] rfl rfl (by kernel_rfl) (fun _ _ _ h => h) (Or.inl ⟨by rfl, ?_⟩) ?_ ?_
     rotate_left
     ·intro w'
      go_simp
      with_reducible rfl
     rotate_left
     ·simp only [Act.put, List.setIfInBounds_toArray, List.set_cons_zero, List.set_cons_succ, i64_w, i32_w]
      rfl
     refine pure_ (i := 7) (N := some 56) (v := ?_) (a' := ?_) #[true, true, true, true, true, true, false, true, false, false, false, false, false, false, false, false, false, false, false] rfl rfl (by kernel_rfl) (fun _ _ _ h => h) (Or.inl ⟨by rfl, ?_⟩) ?_ ?_
     rotate_left
     ·intro w'
      go_simp
      with_reducible rfl
     rotate_left
     ·simp only [Act.put, List.setIfInBounds_toArray, List.set_cons_zero, List.set_cons_succ, i64_w, i32_w]
      rfl
     refine pure_ (i := 8) (N := some 57) (v := ?_) (a' := ?_) #[true, true, true, true, true, true, false, true, true, false, false, false, false, false, false, false, false, false, false] rfl rfl (by kernel_rfl) (fun _ _ _ h => h) (Or.inl ⟨by rfl, ?_⟩) ?_ ?_
     rotate_left
     ·intro w'
      go_simp
      with_reducible rfl
     rotate_left
     ·simp only [Act.put, List.setIfInBounds_toArray, List.set_cons_zero, List.set_cons_succ, i64_w, i32_w]
      rfl
     refine pure_ (i := 9) (N := some 58) (v := ?_) (a' := ?_) #[true, true, true, true, true, true, false, true, true, true, false, false, false, false, false, false, false, false, false] rfl rfl (by kernel_rfl) (fun _ _ _ h => h) (Or.inl ⟨by rfl, ?_⟩) ?_ ?_
     rotate_left
     ·intro w'
      go_simp
      with_reducible rfl
     rotate_left
     ·simp only [Act.put, List.setIfInBounds_toArray, List.set_cons_zero, List.set_cons_succ, i64_w, i32_w]
      rfl
     refine pure_ (i := 10) (N := some 59) (v := ?_) (a' := ?_) #[true, true, true, true, true, true, false, true, true, true, true, false, false, false, false, false, false, false, false] rfl rfl (by kernel_rfl) (fun _ _ _ h => h) (Or.inl ⟨by rfl, ?_⟩) ?_ ?_
     rotate_left
     ·intro w'
      go_simp
      with_reducible rfl
     rotate_left
     ·simp only [Act.put, List.setIfInBounds_toArray, List.set_cons_zero, List.set_cons_succ, i64_w, i32_w]
      rfl
     refine pure_ (i := 11) (N := some 60) (v := ?_) (a' := ?_) #[true, true, true, true, true, true, false, true, true, true, true, true, false, false, false, false, false, false, false] rfl rfl (by kernel_rfl) (fun _ _ _ h => h) (Or.inl ⟨by rfl, ?_⟩) ?_ ?_
     rotate_left
     ·intro w'
      go_simp
      with_reducible rfl
     rotate_left
     ·simp only [Act.put, List.setIfInBounds_toArray, List.set_cons_zero, List.set_cons_succ, i64_w, i32_w]
      rfl
     refine pure_ (i := 12) (N := some 61) (v := ?_) (a' := ?_) #[true, true, true, true, true, true, false, true, true, true, true, true, true, false, false, false, false, false, false] rfl rfl (by kernel_rfl) (fun _ _ _ h => h) (Or.inl ⟨by rfl, ?_⟩) ?_ ?_
     rotate_left
     ·intro w'
      go_simp
      with_reducible rfl
     rotate_left
     ·simp only [Act.put, List.setIfInBounds_toArray, List.set_cons_zero, List.set_cons_succ, i64_w, i32_w]
      rfl
     refine pure_ (i := 13) (N := some 62) (v := ?_) (a' := ?_) #[true, true, true, true, true, true, false, true, true, true, true, true, true, true, false, false, false, false, false] rfl rfl (by kernel_rfl) (fun _ _ _ h => h) (Or.inl ⟨by rfl, ?_⟩) ?_ ?_
     rotate_left
     ·intro w'
      go_simp
      with_reducible rfl
     rotate_left
     ·simp only [Act.put, List.setIfInBounds_toArray, List.set_cons_zero, List.set_cons_succ, i64_w, i32_w]
      rfl
     refine take_ (i := 6) (N := some 55) (v := ?_) (a' := ?_) #[true, true, true, true, true, true, true, true, true, true, true, true, true, true, false, false, false, false, false] rfl rfl (by kernel_rfl) (fun _ _ _ h => h) (Or.inl ⟨by rfl, ?_⟩) hHeld ?_ ?_
     rotate_left
     ·rintro w' ⟨s0, s1⟩
      go_simp
      with_reducible rfl
     rotate_left
     ·simp only [Act.put, List.setIfInBounds_toArray, List.set_cons_zero, List.set_cons_succ, i64_w, i32_w]
      rfl
     refine take_ (i := 14) (N := some 63) (v := ?_) (a' := ?_) #[true, true, true, true, true, true, true, true, true, true, true, true, true, true, true, false, false, false, false] rfl rfl (by kernel_rfl) (fun _ _ _ h => h) (Or.inl ⟨by rfl, ?_⟩) hHeld ?_ ?_
     rotate_left
     ·rintro w' ⟨s0, s1⟩
      go_simp
      with_reducible rfl
     rotate_left
     ·simp only [Act.put, List.setIfInBounds_toArray, List.set_cons_zero, List.set_cons_succ, i64_w, i32_w]
      rfl
     refine one_ (i := 15) (N := some 64) #[true, true, true, true, true, true, true, true, true, true, true, true, true, true, true, true, false, false, false] rfl rfl (by kernel_rfl) (by decide) (fun K hK => ?_)
     refine goes_ Tryd.func24 (by kernel_rfl) rfl #[.int .u8 ld, .int .u8 (rd gl q)] (by rfl) rfl rfl (by (try simp only [List.map_toArray, List.map_cons, List.map_nil]); first | done | rfl) ?_
     with_reducible refine (label_mul.calls ld (rd gl q) _ _ (label_mul.some HLD.out (bytesB_rd HGB.out q HGN.out))).mono ?_
     rintro e w2 ⟨rfl, hB⟩
     have B1 := Aside0.mk hB
     clear hB
     have gz := (B1.out.cell (p := ⟨g1, i + 1 + k, none⟩) (World.block_lt_of_cell? _ _ X1.out)).trans X1.out
     have gf := (B1.out.frozen (p := ⟨g1, i + 1 + k, none⟩) (World.block_lt_of_cell? _ _ X1.out)).trans X3.out
     refine ⟨_, rfl, ?_⟩
     refine hK.out _ _ ⟨gz, (B1.out.cell (p := ⟨g2, q, none⟩) (World.block_lt_of_cell? _ _ X2.out)).trans X2.out⟩ (fun hHeld => ?_)
     clear hK K
     refine norm_ (a' := ?_) ?_ ?_
     rotate_left
     ·show Act.put _ (some 64) _ = _
      simp only [Act.put, List.setIfInBounds_toArray, List.set_cons_zero, List.set_cons_succ, i64_w, i32_w]
      rfl
     refine pure_ (i := 16) (N := some 65) (v := ?_) (a' := ?_) #[true, true, true, true, true, true, true, true, true, true, true, true, true, true, true, true, true, false, false] rfl rfl (by kernel_rfl) (fun _ _ _ h => h) (Or.inl ⟨by rfl, ?_⟩) ?_ ?_
     rotate_left
     ·intro w'
      go_simp
      with_reducible rfl
     rotate_left
     ·simp only [Act.put, List.setIfInBounds_toArray, List.set_cons_zero, List.set_cons_succ, i64_w, i32_w]
      rfl
     refine pure_ (i := 17) (N := some 66) (v := ?_) (a' := ?_) #[true, true, true, true, true, true, true, true, true, true, true, true, true, true, true, true, true, true, false] rfl rfl (by kernel_rfl) (fun _ _ _ h => h) (Or.inl ⟨by rfl, ?_⟩) ?_ ?_
     rotate_left
     ·intro w'
      go_simp
      with_reducible rfl
     rotate_left
     ·simp only [Act.put, List.setIfInBounds_toArray, List.set_cons_zero, List.set_cons_succ, i64_w, i32_w]
      rfl
     refine last_ (i := 18) (N := none) #[true, true, true, true, true, true, true, true, true, true, true, true, true, true, true, true, true, true, true] rfl rfl (by kernel_rfl) (by decide) (fun K hK => ?_)
     refine skip_ (w1 := ?_) (by rfl) rfl ?_ ?_
     rotate_left
     ·go_simp
      rfl
     refine hK.out _ _ ?_
     clear hK K
     refine done_ (by kernel_rfl) ?_
     clear y1 y2 y3 y4
     try go_wp2
     go_roundg (p - (k + 1))
     case rel =>
      refine ⟨k + 1, l.set (i + 1 + k) (Go.bits .xor .u8 (rd l (i + 1 + k : Nat)) (Rs.mulN ld.toNat (rd gl q).toNat : Nat)), by go_num, by omega, ⟨?_⟩, ⟨by rw [List.length_set]; exact HL.out⟩, ⟨?_⟩, ⟨?_⟩, ⟨?_⟩, ⟨?_⟩⟩
      ·have h := HT.out
       rw [show p - k = (p - (k + 1)) + 1 from by omega] at h
       rw [HQ.out]
       exact h
      ·exact bytesB_set HLB.out _ (xor_in8 (bytesB_rd HLB.out _ (by rw [HL.out]; omega)) mulN_in)
      ·have h := Kd.R_putn (Kd.R_below (Kd.R_drew HO.out) B1.out) ((i + 1 + k : Nat) : Int) (Go.bits .xor .u8 (rd l (i + 1 + k : Nat)) (Rs.mulN ld.toNat (rd gl q).toNat : Nat))
       rw [Int.toNat_natCast] at h
       exact h
      ·exact ((show Gc g2 gl wr.drew from HGC.out).below B1.out).far (by exact gne) _
      ·exact (((show Below w.heap.size w wr.drew from HB.out.drew)).trans (B1.out.mono HB.out.size)).setCell (by dsimp only; omega) _
     case measure => omega
    ·have d3 : decide ((k : Int) < (p : Int)) = false := decide_eq_false (by omega)
     go_wp2
     go_roundg (n - (i + 1))
     case rel => exact ⟨i + 1, l, by go_num, by omega, ⟨by have h := HT.out; rw [show p - k = 0 from by omega] at h; exact h⟩, HL, HLB, HO, HGC, HB⟩
     case measure => omega
  ·have d2 : decide ((i : Int) < (n : Int)) = false := decide_eq_false (by omega)
   obtain rfl : i = n := by omega
   obtain ⟨i0, hi0, _, hsz, _⟩ := info_parts Tryd.infoU8
   have hR := Kd.R_reads' HO.out
   have hcut := cut_from (P := Tryd.prog) 84 5 .i64 Tryd.underlying84 hi0 1 hsz (some ⟨g1, 0, none⟩) (i + p) c1 (a0.size : Int) (by omega) (by have := HSZ.out; omega)
   rw [Int.toNat_natCast] at hcut
   have hr := Kd.C_drop (k := Kd.int .u8) (m := a0.size) (c := c1) hR.2.2 (by have := HSZ.out; omega) (by omega)
   obtain ⟨A1, hA1⟩ : ∃ A1, A1 = (if c1 = a0.size then (some ⟨g1, 0, none⟩ : Option Addr) else (some ⟨g1, 0, none⟩ : Option Addr).map (·.add (a0.size * 1))) := ⟨_, rfl⟩
   obtain ⟨m1, hm1⟩ : ∃ m1, m1 = i + p - a0.size := ⟨_, rfl⟩
   obtain ⟨m2, hm2⟩ : ∃ m2, m2 = c1 - a0.size := ⟨_, rfl⟩
   rw [← hA1, ← hm1, ← hm2] at hcut
   have hl1 : (l.drop a0.size).length = m1 := by rw [List.length_drop, hm1, ← hR.1]
   have hr' : (Kd.int .u8).C wr A1 m1 (l.drop a0.size) := by rw [hl1] at hr; rw [hA1]; exact hr
   have hcv := Kd.C_string (P := Tryd.prog) (A := A1) (c := m2) Tryd.underlying84 Tryd.underlying5 Tryd.underlying9 hr'
   have HRr := hid hr'
   have hn3 : (a0.size : Int) ≤ (i : Int) + p := by have := HSZ.out; omega
   have hzs : (strOfNums (l.drop a0.size)).size ≤ 1000000 := by rw [strOfNums_size, List.length_drop, HL.out]; omega
   have hza : a0.size ≤ 100000 := by omega
   clear hr hr' hl1 hm1 hm2 hA1 hR hi0 hsz
   go_wp2
   go_ret2
   have ee : encI gl p a0.size 0 (bytesOf a0 ++ List.replicate p 0) = l := by rw [← HR0.out, ← HFIN.out, ← HT.out, Nat.sub_self]; rfl
   refine ⟨?_, HB.out⟩
   rw [ee]
   rfl
theorem label_Encode.calls (k : Nat) (a0 : ByteArray) (a1 : Int) (r1 : ByteArray) (r2 : Int) (w : World) (h : label_Encode.f k a0 a1 = some (r1, r2)) :
  Calls Tryd.prog 13 #[.string a0, .int .i64 a1] w fun e w' => e = .returned (.tuple #[.string r1, .int .i64 r2]) ∧ Below w.heap.size w w' := by
 unfold label_Encode.f at h
 by_cases h0 : a1 < 0
 ·rw [if_pos h0] at h
  cases h
  exact enc_bad a0 a1 w (.inl h0)
 ·rw [if_neg h0] at h
  by_cases h1 : a1 > 64
  ·rw [if_pos h1] at h
   cases h
   exact enc_bad a0 a1 w (.inr h1)
  ·rw [if_neg h1] at h
   obtain ⟨t, ht, h⟩ := Option.bind_eq_some_iff.mp h
   cases t with
   | false =>
    rw [if_neg (by simp)] at h
    cases h
    exact enc_no a0 a1 w (by omega) (by omega) ht
   | true =>
    rw [if_pos rfl] at h
    obtain ⟨g, hg, h⟩ := Option.bind_eq_some_iff.mp h
    by_cases hc : bytesB g = true ∧ (g.length : Int) = a1 + 1 ∧ a0.size ≤ 100000 ∧ 0 < a0.size
    ·rw [if_pos hc] at h
     obtain ⟨c1, c2, c3, c4⟩ := hc
     obtain ⟨p, rfl⟩ := Int.eq_ofNat_of_zero_le (show 0 ≤ a1 by omega)
     rw [Int.toNat_natCast] at h
     cases h
     exact enc_walk k a0 p g w (by omega) ht hg c1 (by omega) (by omega) (by omega)
    ·rw [if_neg hc] at h; exact absurd h (by simp)
def plane_within.f (a0 : Int) (a1 : Int) (a2 : Int) : Option (Bool) := if a0 ≥ a1 then (some (decide (a0 ≤ a2))) else (some false)
set_option maxHeartbeats 8000000 in
set_option maxRecDepth 100000 in
theorem plane_within.calls (a0 : Int) (a1 : Int) (a2 : Int) (r : Bool) (w : World) (h : plane_within.f a0 a1 a2 = some r) :
  Calls Tryd.prog 69 #[.int .i64 a0, .int .i64 a1, .int .i64 a2] w fun e w' => e = .returned (.bool r) ∧ Drawn0 w w' := by
 have H : (if a0 ≥ a1 then (some (decide (a0 ≤ a2))) else (some false)) = some r := h
 clear h
 by_cases c4 : a0 ≥ a1
 ·rw [if_pos c4] at H
  have c4b0 : decide (a1 ≤ a0) = true := decide_eq_true c4
  clear c4
  obtain rfl := Option.some.inj H
  go_enter Tryd.func69, Tryd.ntmps69
  go_wp2
  go_ret
  exact ⟨by first | rfl | (simp; done) | (simp [*]; done), by repeat (first | exact Drawn0.refl _ | apply Drawn0.step)⟩
 ·rw [if_neg c4] at H
  have c4b0 : decide (a1 ≤ a0) = false := decide_eq_false c4
  clear c4
  obtain rfl := Option.some.inj H
  go_enter Tryd.func69, Tryd.ntmps69
  go_wp2
  go_ret
  exact ⟨by first | rfl | (simp; done) | (simp [*]; done), by repeat (first | exact Drawn0.refl _ | apply Drawn0.step)⟩
def plane_valid.f (a0_0 : Int) (a0_1 : Int) : Option (Bool) := (plane_within.f a0_0 (-4096) 4096).bind fun t325 => (if t325 = true then ((plane_within.f a0_1 (-4096) 4096).bind fun t326 => (some t326)) else (some false))
set_option maxHeartbeats 8000000 in
set_option maxRecDepth 100000 in
theorem plane_valid.calls (a0_0 : Int) (a0_1 : Int) (r : Bool) (w : World) (h : plane_valid.f a0_0 a0_1 = some r) :
  Calls Tryd.prog 63 #[.agg #[.int .i64 a0_0, .int .i64 a0_1]] w fun e w' => e = .returned (.bool r) ∧ Below w.heap.size w w' := by
 have hu89 := Tryd.underlying89
 have HB := Aside0.mk (Below.refl w.heap.size w)
 have H : ((plane_within.f a0_0 (-4096) 4096).bind fun t325 => (if t325 = true then ((plane_within.f a0_1 (-4096) 4096).bind fun t326 => (some t326)) else (some false))) = some r := h
 clear h
 replace H := Option.bind_eq_some_iff.mp H
 obtain ⟨t325, A20, H⟩ := H
 replace H : (if t325 = true then ((plane_within.f a0_1 (-4096) 4096).bind fun t326 => (some t326)) else (some false)) = some r := H
 have A2 := Aside0.mk A20; (try simp only [Int.toNat_natCast] at A2)
 clear A20
 by_cases c3 : t325 = true
 ·subst c3
  have H1 : ((plane_within.f a0_1 (-4096) 4096).bind fun t326 => (some t326)) = some r := by rw [if_pos rfl] at H; exact H
  clear H
  have H := H1
  clear H1
  replace H := Option.bind_eq_some_iff.mp H
  obtain ⟨t326, A40, H⟩ := H
  replace H : (some t326) = some r := H
  have A4 := Aside0.mk A40; (try simp only [Int.toNat_natCast] at A4)
  clear A40
  obtain rfl := Option.some.inj H
  go_enter Tryd.func63, Tryd.ntmps63
  go_wp2_with (first | ((with_reducible refine gate_dst (N := 1) rfl ?_); refine box_event ?hg (N := 1) ?hd (cs := #[.int .i64 a0_0, .int .i64 a0_1]) (t := 89) ?hr ?_; (case hd => rfl); (case hg => rfl); (case hr => first | (go_simp; done) | (go_simp; rfl)); intro gb324 hg w5 hbox hb; have n0_ := Aside0.mk (below_step (by repeat (first | (with_reducible first | exact HB.out | apply below_alloc | apply pw_below_drewN | apply below_drew1) | exact HB.out)) hb); have n1_ := Aside0.mk (hbox); have n2_ := Aside0.mk ((by rw [hg]; exact (below_size (by repeat (first | (with_reducible first | exact HB.out | apply below_alloc | apply pw_below_drewN | apply below_drew1) | exact HB.out))) : w.heap.size ≤ gb324)); have n3_ := Aside0.mk ((by rw [hg]; exact (below_size (by repeat (first | (with_reducible first | exact HB.out | apply below_alloc | apply pw_below_drewN | apply below_drew1) | exact HB.out))) : w.heap.size ≤ gb324)); clear HB; have HB := n0_; have BK324 := n1_; have GW324 := n2_; have GE324 := n3_; clear n0_ n1_ n2_ n3_; clear hb hbox hg; have hcz6_0 : w5.cell? ⟨gb324, 0, none⟩ = some (.int .i64 a0_0) := (blk_cell BK324.out 0).trans rfl; have hcz6_1 : w5.cell? ⟨gb324, 1, none⟩ = some (.int .i64 a0_1) := (blk_cell BK324.out 1).trans rfl; have hfz6_0 := blk_frozen BK324.out 0; have hfz6_1 := blk_frozen BK324.out 1) | ((with_reducible refine gate_callee (f := 69) rfl ?_); refine goesL_ (some 5) rfl rfl Tryd.func69 (by kernel_rfl) rfl #[.int .i64 a0_0, .int .i64 (-4096), .int .i64 4096] rfl (by (try simp only [List.map_toArray, List.map_cons, List.map_nil]); first | done | rfl | (simp only [List.length_drop, List.length_take]; rfl)) ?_; (with_reducible refine (plane_within.calls a0_0 (-4096) 4096 true _ A2.out).mono ?_); rintro e w' ⟨rfl, ⟨nd, rfl⟩⟩; refine ⟨_, rfl, ?_⟩) | (go_at_call 69; (with_reducible refine (plane_within.calls a0_1 (-4096) 4096 t326 _ A4.out).mono ?_); rintro e w' ⟨rfl, ⟨nd, rfl⟩⟩))
  go_ret
  exact ⟨by first | rfl | (simp [errW_none, errW_some] <;> rfl) | (simp [*, errW_none, errW_some] <;> rfl), by repeat (first | (with_reducible first | exact HB.out | apply below_alloc | apply pw_below_drewN | apply below_drew1 | refine below_set ?_ GE324.out) | exact HB.out)⟩
 ·replace c3 := Bool.eq_false_iff.mpr c3
  subst c3
  have H1 : (some false) = some r := by rw [if_neg (show ¬ (false = true) by decide)] at H; exact H
  clear H
  have H := H1
  clear H1
  obtain rfl := Option.some.inj H
  go_enter Tryd.func63, Tryd.ntmps63
  go_wp2_with (first | ((with_reducible refine gate_dst (N := 1) rfl ?_); refine box_event ?hg (N := 1) ?hd (cs := #[.int .i64 a0_0, .int .i64 a0_1]) (t := 89) ?hr ?_; (case hd => rfl); (case hg => rfl); (case hr => first | (go_simp; done) | (go_simp; rfl)); intro gb324 hg w7 hbox hb; have n0_ := Aside0.mk (below_step (by repeat (first | (with_reducible first | exact HB.out | apply below_alloc | apply pw_below_drewN | apply below_drew1) | exact HB.out)) hb); have n1_ := Aside0.mk (hbox); have n2_ := Aside0.mk ((by rw [hg]; exact (below_size (by repeat (first | (with_reducible first | exact HB.out | apply below_alloc | apply pw_below_drewN | apply below_drew1) | exact HB.out))) : w.heap.size ≤ gb324)); have n3_ := Aside0.mk ((by rw [hg]; exact (below_size (by repeat (first | (with_reducible first | exact HB.out | apply below_alloc | apply pw_below_drewN | apply below_drew1) | exact HB.out))) : w.heap.size ≤ gb324)); clear HB; have HB := n0_; have BK324 := n1_; have GW324 := n2_; have GE324 := n3_; clear n0_ n1_ n2_ n3_; clear hb hbox hg; have hcz8_0 : w7.cell? ⟨gb324, 0, none⟩ = some (.int .i64 a0_0) := (blk_cell BK324.out 0).trans rfl; have hcz8_1 : w7.cell? ⟨gb324, 1, none⟩ = some (.int .i64 a0_1) := (blk_cell BK324.out 1).trans rfl; have hfz8_0 := blk_frozen BK324.out 0; have hfz8_1 := blk_frozen BK324.out 1) | ((with_reducible refine gate_callee (f := 69) rfl ?_); refine goesL_ (some 5) rfl rfl Tryd.func69 (by kernel_rfl) rfl #[.int .i64 a0_0, .int .i64 (-4096), .int .i64 4096] rfl (by (try simp only [List.map_toArray, List.map_cons, List.map_nil]); first | done | rfl | (simp only [List.length_drop, List.length_take]; rfl)) ?_; (with_reducible refine (plane_within.calls a0_0 (-4096) 4096 false _ A2.out).mono ?_); rintro e w' ⟨rfl, ⟨nd, rfl⟩⟩; refine ⟨_, rfl, ?_⟩))
  go_ret
  exact ⟨by first | rfl | (simp [errW_none, errW_some] <;> rfl) | (simp [*, errW_none, errW_some] <;> rfl), by repeat (first | (with_reducible first | exact HB.out | apply below_alloc | apply pw_below_drewN | apply below_drew1 | refine below_set ?_ GE324.out) | exact HB.out)⟩
def plane_invalid.f (a0_0 : Int) (a0_1 : Int) : Option (Bool) := (plane_valid.f a0_0 a0_1).bind fun t328 => (some (!t328))
set_option maxHeartbeats 8000000 in
set_option maxRecDepth 100000 in
theorem plane_invalid.calls (a0_0 : Int) (a0_1 : Int) (r : Bool) (w : World) (h : plane_invalid.f a0_0 a0_1 = some r) :
  Calls Tryd.prog 43 #[.agg #[.int .i64 a0_0, .int .i64 a0_1]] w fun e w' => e = .returned (.bool r) ∧ Below w.heap.size w w' := by
 have hu89 := Tryd.underlying89
 have HB := Aside0.mk (Below.refl w.heap.size w)
 have H : ((plane_valid.f a0_0 a0_1).bind fun t328 => (some (!t328))) = some r := h
 clear h
 replace H := Option.bind_eq_some_iff.mp H
 obtain ⟨t328, A20, H⟩ := H
 replace H : (some (!t328)) = some r := H
 have A2 := Aside0.mk A20; (try simp only [Int.toNat_natCast] at A2)
 clear A20
 obtain rfl := Option.some.inj H
 go_enter Tryd.func43, Tryd.ntmps43
 go_wp2_with (first | ((with_reducible refine gate_dst (N := 1) rfl ?_); refine box_event ?hg (N := 1) ?hd (cs := #[.int .i64 a0_0, .int .i64 a0_1]) (t := 89) ?hr ?_; (case hd => rfl); (case hg => rfl); (case hr => first | (go_simp; done) | (go_simp; rfl)); intro gb327 hg w3 hbox hb; have n0_ := Aside0.mk (below_step (by repeat (first | (with_reducible first | exact HB.out | apply below_alloc | apply pw_below_drewN | apply below_drew1) | exact HB.out)) hb); have n1_ := Aside0.mk (hbox); have n2_ := Aside0.mk ((by rw [hg]; exact (below_size (by repeat (first | (with_reducible first | exact HB.out | apply below_alloc | apply pw_below_drewN | apply below_drew1) | exact HB.out))) : w.heap.size ≤ gb327)); have n3_ := Aside0.mk ((by rw [hg]; exact (below_size (by repeat (first | (with_reducible first | exact HB.out | apply below_alloc | apply pw_below_drewN | apply below_drew1) | exact HB.out))) : w.heap.size ≤ gb327)); clear HB; have HB := n0_; have BK327 := n1_; have GW327 := n2_; have GE327 := n3_; clear n0_ n1_ n2_ n3_; clear hb hbox hg; have hcz4_0 : w3.cell? ⟨gb327, 0, none⟩ = some (.int .i64 a0_0) := (blk_cell BK327.out 0).trans rfl; have hcz4_1 : w3.cell? ⟨gb327, 1, none⟩ = some (.int .i64 a0_1) := (blk_cell BK327.out 1).trans rfl; have hfz4_0 := blk_frozen BK327.out 0; have hfz4_1 := blk_frozen BK327.out 1) | ((with_reducible refine gate_callee (f := 63) rfl ?_); refine goesL_ (some 4) rfl rfl Tryd.func63 (by kernel_rfl) rfl #[.agg #[.int .i64 a0_0, .int .i64 a0_1]] rfl (by (try simp only [List.map_toArray, List.map_cons, List.map_nil]); first | done | rfl | (simp only [List.length_drop, List.length_take]; rfl)) ?_; (with_reducible refine (plane_valid.calls a0_0 a0_1 t328 _ A2.out).mono ?_); rintro e w5 ⟨rfl, hb⟩; refine ⟨_, rfl, ?_⟩; have n0_ := Aside0.mk (blk_below (g := gb327) (o := .cells #[.int .i64 a0_0, .int .i64 a0_1] 89 (0, 0)) (by (with_reducible repeat (first | refine blk_drewN ?_ _ | refine blk_drew ?_ | refine blk_alloc ?_ _)); exact BK327.out) hb); have n1_ := Aside0.mk (below_step (by repeat (first | (with_reducible first | exact HB.out | apply below_alloc | apply pw_below_drewN | apply below_drew1 | refine below_set ?_ GE327.out) | exact HB.out)) hb); clear BK327; clear HB; have BK327 := n0_; have HB := n1_; clear n0_ n1_; (try clear hb); (try clear hb2); (try clear hk); (try clear hi)))
 go_ret
 exact ⟨by first | rfl | (simp [errW_none, errW_some] <;> rfl) | (simp [*, errW_none, errW_some] <;> rfl), by repeat (first | (with_reducible first | exact HB.out | apply below_alloc | apply pw_below_drewN | apply below_drew1 | refine below_set ?_ GE327.out) | exact HB.out)⟩
def plane_area.l0 : Nat → List (S89) → Int → List (S89) → Int → Int → Option (Int)
 | 0, _, _, _, _, _ => none
 | k + 1, x0, x3, x7, x8, x9 => if x9 < x8 then (if 0 ≤ x9 then (if x9 < (x7.length : Int) then (if (x0.length : Int) = 0 then (none) else (if 0 ≤ (Int.tmod (wrap64 (x9 + 1)) (x0.length : Int)) then (if (Int.tmod (wrap64 (x9 + 1)) (x0.length : Int)) < (x0.length : Int) then (plane_area.l0 k x0 (wrap64 (x3 + (wrap64 ((wrap64 (((rd_T89 x7 x9).f0) * ((rd_T89 x0 (Int.tmod (wrap64 (x9 + 1)) (x0.length : Int))).f1))) - (wrap64 (((rd_T89 x0 (Int.tmod (wrap64 (x9 + 1)) (x0.length : Int))).f0) * ((rd_T89 x7 x9).f1))))))) x7 x8 (wrap64 (x9 + 1))) else (none)) else (none))) else (none)) else (none)) else (some x3)
def plane_area.f (k : Nat) (l0 : List (S89)) : Option (Int) := plane_area.l0 k l0 0 l0 (l0.length : Int) 0
theorem plane_area.mono_l : ∀ k, (∀ y0 y1 y2 y3 y4, LeO (plane_area.l0 k y0 y1 y2 y3 y4) (plane_area.l0 (k + 1) y0 y1 y2 y3 y4))
 | 0 => fun _ _ _ _ _ r h => by simp [plane_area.l0] at h
 | k + 1 => by
  have ih0 := plane_area.mono_l k
  ·intro y0 y1 y2 y3 y4
   unfold plane_area.l0
   repeat' first
   | (with_reducible exact ih0 _ _ _ _ _)
   | (with_reducible exact LeO.refl _)
   | (with_reducible exact LeO.none _)
   | (with_reducible refine LeO.ite ?_ ?_)
   | (with_reducible refine LeO.bind ?_ (fun _ => ?_))
   | exact ih0 _ _ _ _ _
   | exact LeO.none _
   | refine LeO.ite ?_ ?_
   | refine LeO.bind ?_ (fun _ => ?_)
theorem plane_area.mono : ∀ a0 k, LeO (plane_area.f k a0) (plane_area.f (k + 1) a0) := by
 intro a0 k
 have ih0 := plane_area.mono_l k
 unfold plane_area.f
 repeat' first
   | (with_reducible exact ih0 _ _ _ _ _)
   | (with_reducible exact LeO.refl _)
   | (with_reducible exact LeO.none _)
   | (with_reducible refine LeO.ite ?_ ?_)
   | (with_reducible refine LeO.bind ?_ (fun _ => ?_))
   | exact ih0 _ _ _ _ _
   | exact LeO.none _
   | refine LeO.ite ?_ ?_
   | refine LeO.bind ?_ (fun _ => ?_)
set_option maxHeartbeats 8000000 in
set_option maxRecDepth 100000 in
theorem plane_area.calls (k : Nat) (A0 : Option Addr) (c0 : Nat) (l0 : List (S89)) (r : Int) (w : World) (hr0 : Kd.C k89 w A0 l0.length l0) (hc0 : l0.length ≤ c0) (h : plane_area.f k l0 = some r) :
  Calls Tryd.prog 44 #[.slice A0 l0.length c0] w fun e w' => e = .returned (.int .i64 r) ∧ Below w.heap.size w w' := by
 have hu89 := Tryd.underlying89
 have HR0 := Aside0.mk hr0
 have HC0 := Aside0.mk hc0
 clear hr0 hc0
 have HB := Aside0.mk (Below.refl w.heap.size w)
 have H : (plane_area.l0 k l0 0 l0 (l0.length : Int) 0) = some r := h
 clear h
 have H' := Aside0.mk H
 clear H
 go_enter Tryd.func44, Tryd.ntmps44
 go_wp2
 go_loopg [3, 9] k (fun kq v3 v9 w' => ∃ (x3_1 : Int) (x9_1 : Int), v3 = .int .i64 x3_1 ∧ v9 = .int .i64 x9_1 ∧ Aside0 (plane_area.l0 kq l0 x3_1 l0 (l0.length : Int) x9_1 = some r) ∧ Aside0 (kq ≤ k) ∧ Aside0 (Below w.heap.size w w'))
 case atStart => exact ⟨(0), (0), (by first | rfl | (simp; done) | (simp [*]; done)), (by first | rfl | (simp; done) | (simp [*]; done)), H', ⟨Nat.le_refl _⟩, ⟨by repeat (first | (with_reducible first | exact HB.out | apply below_alloc | apply pw_below_drewN | apply below_drew1) | exact HB.out)⟩⟩
 case round =>
  clear H'
  obtain ⟨x3_1, x9_1, rfl, rfl, HA, HK1, HB⟩ := hrel
  cases gk with
  | zero => exact absurd HA.out (by simp [plane_area.l0])
  | succ k1 =>
   have H := HA.out
   clear HA
   simp only [plane_area.l0] at H
   by_cases c2 : x9_1 < (l0.length : Int)
   ·rw [if_pos c2] at H
    have c2b0 : decide (x9_1 < (l0.length : Int)) = true := decide_eq_true c2
    clear c2
    by_cases c3 : 0 ≤ x9_1
    ·rw [if_pos c3] at H
     have c3b0 : decide (0 ≤ x9_1) = true := decide_eq_true c3
     clear c3
     by_cases c4 : x9_1 < (l0.length : Int)
     ·rw [if_pos c4] at H
      have c4b0 : decide (x9_1 < (l0.length : Int)) = true := decide_eq_true c4
      clear c4
      by_cases c5 : (l0.length : Int) = 0
      ·rw [if_pos c5] at H
       exact absurd H (by simp)
      ·rw [if_neg c5] at H
       have c5b0 : ((l0.length : Int) == 0) = false := beq_eq_false_iff_ne.mpr c5
       have c5b1 : ((l0.length : Int) != 0) = true := bne_iff_ne.mpr c5
       have c5b2 : ¬ (l0 = []) := fun h_ => c5 (by rw [h_]; rfl)
       obtain ⟨ji6, hji6⟩ : ∃ j_ : Int, (Int.tmod (wrap64 (x9_1 + 1)) (l0.length : Int)) = j_ := ⟨_, rfl⟩
       replace H : (if 0 ≤ (ji6) then (if (ji6) < (l0.length : Int) then (plane_area.l0 k1 l0 (wrap64 (x3_1 + (wrap64 ((wrap64 (((rd_T89 l0 x9_1).f0) * ((rd_T89 l0 (ji6)).f1))) - (wrap64 (((rd_T89 l0 (ji6)).f0) * ((rd_T89 l0 x9_1).f1))))))) l0 (l0.length : Int) (wrap64 (x9_1 + 1))) else (none)) else (none)) = some r := by first | (rw [hji6] at H; exact H) | (simp only [hji6] at H ⊢; exact H)
       by_cases c7 : 0 ≤ (ji6)
       ·rw [if_pos c7] at H
        have c7b0 : decide (0 ≤ (ji6)) = true := decide_eq_true c7
        clear c7
        by_cases c8 : (ji6) < (l0.length : Int)
        ·rw [if_pos c8] at H
         have c8b0 : decide ((ji6) < (l0.length : Int)) = true := decide_eq_true c8
         clear c8
         have H' := Aside0.mk H
         clear H
         have p329 : 0 ≤ (x9_1 : Int) := of_decide_eq_true (by first | (with_reducible assumption) | assumption)
         have q329 : x9_1 < (l0.length : Int) := of_decide_eq_true (by first | (with_reducible assumption) | assumption)
         obtain ⟨ad329, e329, hx329_0, hx329_1⟩ := at_T89 HR0.out x9_1 p329 q329
         cases e329
         replace hx329_0 := (HB.out.cell (World.block_lt_of_cell? w _ hx329_0)).trans hx329_0
         replace hx329_1 := (HB.out.cell (World.block_lt_of_cell? w _ hx329_1)).trans hx329_1
         replace p329 := eq_true p329
         replace q329 := eq_true q329
         go_wp2_with (first | ((with_reducible refine gate_dst (N := 5) rfl ?_); refine box_event ?hg (N := 5) ?hd (cs := #[.int .i64 0, .int .i64 0]) (t := 89) ?hr ?_; (case hd => rfl); (case hg => rfl); (case hr => first | (go_simp; done) | (go_simp; rfl)); intro gb330 hg w9 hbox hb; have n0_ := Aside0.mk (below_step (by repeat (first | (with_reducible first | exact HB.out | apply below_alloc | apply pw_below_drewN | apply below_drew1) | exact HB.out)) hb); have n1_ := Aside0.mk (hbox); have n2_ := Aside0.mk ((by rw [hg]; exact (below_size (by repeat (first | (with_reducible first | exact HB.out | apply below_alloc | apply pw_below_drewN | apply below_drew1) | exact HB.out))) : w.heap.size ≤ gb330)); have n3_ := Aside0.mk ((by rw [hg]; exact (below_size (by repeat (first | (with_reducible first | exact HB.out | apply below_alloc | apply pw_below_drewN | apply below_drew1) | exact HB.out))) : w.heap.size ≤ gb330)); clear HB; have HB := n0_; have BK330 := n1_; have GW330 := n2_; have GE330 := n3_; clear n0_ n1_ n2_ n3_; clear hb hbox hg; have hcz10_0 : w9.cell? ⟨gb330, 0, none⟩ = some (.int .i64 0) := (blk_cell BK330.out 0).trans rfl; have hcz10_1 : w9.cell? ⟨gb330, 1, none⟩ = some (.int .i64 0) := (blk_cell BK330.out 1).trans rfl; have hfz10_0 := blk_frozen BK330.out 0; have hfz10_1 := blk_frozen BK330.out 1; have p331 : 0 ≤ ((ji6) : Int) := of_decide_eq_true (by first | (with_reducible assumption) | assumption); have q331 : (ji6) < (l0.length : Int) := of_decide_eq_true (by first | (with_reducible assumption) | assumption); obtain ⟨ad331, e331, hx331_0, hx331_1⟩ := at_T89 HR0.out (ji6) p331 q331; obtain rfl : ad329 = ad331 := (by injection e331); have hn331_0 : ad329.block ≠ gb330 := Nat.ne_of_lt (Nat.lt_of_lt_of_le (by have := World.block_lt_of_cell? _ _ hx331_0; first | rwa [add_block] at this | exact this) GW330.out); have hn331_1 : ad329.block ≠ gb330 := Nat.ne_of_lt (Nat.lt_of_lt_of_le (by have := World.block_lt_of_cell? _ _ hx331_0; first | rwa [add_block] at this | exact this) GW330.out); replace hx331_0 := (HB.out.cell (World.block_lt_of_cell? w _ hx331_0)).trans hx331_0; replace hx331_1 := (HB.out.cell (World.block_lt_of_cell? w _ hx331_1)).trans hx331_1; replace hx331_0 := (cell_far (p := ⟨gb330, 0, none⟩) (by first | (rw [add_block]; exact hn331_0) | (show (Addr.add _ _).block ≠ _; rw [add_block]; exact hn331_0) | exact hn331_0) (.int .i64 ((rd_T89 l0 x9_1).f0))).trans hx331_0; replace hx331_1 := (cell_far (p := ⟨gb330, 0, none⟩) (by first | (rw [add_block]; exact hn331_0) | (show (Addr.add _ _).block ≠ _; rw [add_block]; exact hn331_0) | exact hn331_0) (.int .i64 ((rd_T89 l0 x9_1).f0))).trans hx331_1; replace hx331_0 := (cell_far (p := ⟨gb330, 1, none⟩) (by first | (rw [add_block]; exact hn331_1) | (show (Addr.add _ _).block ≠ _; rw [add_block]; exact hn331_1) | exact hn331_1) (.int .i64 ((rd_T89 l0 x9_1).f1))).trans hx331_0; replace hx331_1 := (cell_far (p := ⟨gb330, 1, none⟩) (by first | (rw [add_block]; exact hn331_1) | (show (Addr.add _ _).block ≠ _; rw [add_block]; exact hn331_1) | exact hn331_1) (.int .i64 ((rd_T89 l0 x9_1).f1))).trans hx331_1; clear hn331_0; clear hn331_1; replace p331 := eq_true p331; replace q331 := eq_true q331) | ((with_reducible refine gate_dst (N := 6) rfl ?_); refine box_event ?hg (N := 6) ?hd (cs := #[.int .i64 0, .int .i64 0]) (t := 89) ?hr ?_; (case hd => rfl); (case hg => rfl); (case hr => first | (go_simp; done) | (go_simp; rfl)); intro gb332 hg w11 hbox hb; have n0_ := Aside0.mk (blk_below (g := gb330) (o := .cells #[.int .i64 ((rd_T89 l0 x9_1).f0), .int .i64 ((rd_T89 l0 x9_1).f1)] 89 (0, 0)) (by (with_reducible repeat (first | refine blk_drewN ?_ _ | refine blk_drew ?_ | refine blk_alloc ?_ _)); refine blk_put (cs := #[.int .i64 ((rd_T89 l0 x9_1).f0), .int .i64 0]) ?_ 1 _ rfl; (with_reducible repeat (first | refine blk_drewN ?_ _ | refine blk_drew ?_ | refine blk_alloc ?_ _)); refine blk_put (cs := #[.int .i64 0, .int .i64 0]) ?_ 0 _ rfl; (with_reducible repeat (first | refine blk_drewN ?_ _ | refine blk_drew ?_ | refine blk_alloc ?_ _)); exact BK330.out) hb); have n1_ := Aside0.mk (below_step (by repeat (first | (with_reducible first | exact HB.out | apply below_alloc | apply pw_below_drewN | apply below_drew1 | refine below_set ?_ GE330.out) | exact HB.out)) hb); have n2_ := Aside0.mk (hbox); have n3_ := Aside0.mk ((by rw [hg]; exact (below_size (by repeat (first | (with_reducible first | exact HB.out | apply below_alloc | apply pw_below_drewN | apply below_drew1 | refine below_set ?_ GE330.out) | exact HB.out))) : w.heap.size ≤ gb332)); have n4_ := Aside0.mk ((by rw [hg]; exact (below_size (by repeat (first | (with_reducible first | exact HB.out | apply below_alloc | apply pw_below_drewN | apply below_drew1 | refine below_set ?_ GE330.out) | exact HB.out))) : w.heap.size ≤ gb332)); have n5_ := Aside0.mk ((by rw [hg]; exact Nat.ne_of_lt (blk_lt (g := gb330) (o := .cells #[.int .i64 ((rd_T89 l0 x9_1).f0), .int .i64 ((rd_T89 l0 x9_1).f1)] 89 (0, 0)) (by (with_reducible repeat (first | refine blk_drewN ?_ _ | refine blk_drew ?_ | refine blk_alloc ?_ _)); refine blk_put (cs := #[.int .i64 ((rd_T89 l0 x9_1).f0), .int .i64 0]) ?_ 1 _ rfl; (with_reducible repeat (first | refine blk_drewN ?_ _ | refine blk_drew ?_ | refine blk_alloc ?_ _)); refine blk_put (cs := #[.int .i64 0, .int .i64 0]) ?_ 0 _ rfl; (with_reducible repeat (first | refine blk_drewN ?_ _ | refine blk_drew ?_ | refine blk_alloc ?_ _)); exact BK330.out)) : gb330 ≠ gb332)); have n6_ := Aside0.mk ((by rw [hg]; exact Nat.ne_of_gt (blk_lt (g := gb330) (o := .cells #[.int .i64 ((rd_T89 l0 x9_1).f0), .int .i64 ((rd_T89 l0 x9_1).f1)] 89 (0, 0)) (by (with_reducible repeat (first | refine blk_drewN ?_ _ | refine blk_drew ?_ | refine blk_alloc ?_ _)); refine blk_put (cs := #[.int .i64 ((rd_T89 l0 x9_1).f0), .int .i64 0]) ?_ 1 _ rfl; (with_reducible repeat (first | refine blk_drewN ?_ _ | refine blk_drew ?_ | refine blk_alloc ?_ _)); refine blk_put (cs := #[.int .i64 0, .int .i64 0]) ?_ 0 _ rfl; (with_reducible repeat (first | refine blk_drewN ?_ _ | refine blk_drew ?_ | refine blk_alloc ?_ _)); exact BK330.out)) : gb332 ≠ gb330)); clear BK330; clear HB; have BK330 := n0_; have HB := n1_; have BK332 := n2_; have GW332 := n3_; have GE332 := n4_; have NB330_332 := n5_; have NB332_330 := n6_; clear n0_ n1_ n2_ n3_ n4_ n5_ n6_; clear hb hbox hg; have hnb12 := NB332_330.out; have hnc12 := NB330_332.out; have hcz13_0 : w11.cell? ⟨gb332, 0, none⟩ = some (.int .i64 0) := (blk_cell BK332.out 0).trans rfl; have hcz13_1 : w11.cell? ⟨gb332, 1, none⟩ = some (.int .i64 0) := (blk_cell BK332.out 1).trans rfl; have hfz13_0 := blk_frozen BK332.out 0; have hfz13_1 := blk_frozen BK332.out 1; have hcz14_0 : w11.cell? ⟨gb330, 0, none⟩ = some (.int .i64 ((rd_T89 l0 x9_1).f0)) := (blk_cell BK330.out 0).trans rfl; have hcz14_1 : w11.cell? ⟨gb330, 1, none⟩ = some (.int .i64 ((rd_T89 l0 x9_1).f1)) := (blk_cell BK330.out 1).trans rfl; have hfz14_0 := blk_frozen BK330.out 0; have hfz14_1 := blk_frozen BK330.out 1))
         go_roundg k1
         case measure => have := HK1.out; omega
         case rel => exact ⟨(wrap64 (x3_1 + (wrap64 ((wrap64 (((rd_T89 l0 x9_1).f0) * ((rd_T89 l0 (ji6)).f1))) - (wrap64 (((rd_T89 l0 (ji6)).f0) * ((rd_T89 l0 x9_1).f1))))))), (wrap64 (x9_1 + 1)), (by first | rfl | (simp; done) | (simp only [← hji6] <;> (first | rfl | simp)) | (simp [*]; done)), (by first | rfl | (simp; done) | (simp [*]; done)), H', ⟨by have := HK1.out; omega⟩, ⟨by repeat (first | (with_reducible first | exact HB.out | apply below_alloc | apply pw_below_drewN | apply below_drew1 | refine below_set ?_ GE330.out | refine below_set ?_ GE332.out) | exact HB.out)⟩⟩
        ·rw [if_neg c8] at H
         exact absurd H (by simp)
       ·rw [if_neg c7] at H
        exact absurd H (by simp)
     ·rw [if_neg c4] at H
      exact absurd H (by simp)
    ·rw [if_neg c3] at H
     exact absurd H (by simp)
   ·rw [if_neg c2] at H
    have c2b0 : decide (x9_1 < (l0.length : Int)) = false := decide_eq_false c2
    clear c2
    obtain rfl := Option.some.inj H
    go_wp2
    go_ret
    exact ⟨by first | rfl | (simp [errW_none, errW_some] <;> rfl) | (simp [*, errW_none, errW_some] <;> rfl), by repeat (first | (with_reducible first | exact HB.out | apply below_alloc | apply pw_below_drewN | apply below_drew1) | exact HB.out)⟩
end Go.Proofs.YtiioklboaookiaaDoor.Q
