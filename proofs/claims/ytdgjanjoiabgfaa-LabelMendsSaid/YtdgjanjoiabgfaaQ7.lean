-- written by a program of this session's (wip/hook.py: the kit's print, with functions proved by hand)
import Derived.Test.YtdgjanjoiabgfaaQ0
import Derived.Test.YtdgjanjoiabgfaaQ2
import Derived.Test.YtdgjanjoiabgfaaQ4
import Derived.Test.YtdgjanjoiabgfaaQ5
import Derived.Test.YtdgjanjoiabgfaaQ6
namespace Go.Proofs.Ytdgjanjoiabgfaa.Q
open Go.RowKit Go.Proofs.YtdgjanjoiabgfaaW.PrintWords Go.Proofs.YtdgjanjoiabgfaaW.PrintLast Go.Proofs.Ytdgjanjoiabgfaa.Hand Go.Proofs.YtdgjanjoiabgfaaW.PrintMore
attribute [local go_sem] max2_int min2_int max_two min_two max_three min_three max_four min_four   -- for this text's walks alone
set_option linter.unusedVariables false
set_option linter.unusedSimpArgs false

/-! ### label_locator: function 44 -/
def label_locator.l0 : Nat → Int → List Int → List Int → Int → Int → Option (List Int)
  | 0, _, _, _, _, _ => none
  | k + 1, x0, x5, x9, x10, x11 => if x11 < x10 then (if 0 ≤ x11 then (if x11 < (x9.length : Int) then ((label_exp.f (wrap64 ((wrap64 (x0 - 1)) - (rd x9 x11)))).bind fun t185 => ((label_times.f x5 (([1, t185] : List Int)) (wrap64 ((x5.length : Int) + 1))).bind fun t189 => (label_locator.l0 k x0 t189 x9 x10 (wrap64 (x11 + 1))))) else (none)) else (none)) else (some x5)
def label_locator.f (k : Nat) (a0 : Int) (l1 : List Int) : Option (List Int) := label_locator.l0 k a0 (([1] : List Int)) l1 (l1.length : Int) 0
theorem label_locator.mono_l : ∀ k, (∀ y0 y1 y2 y3 y4, LeO (label_locator.l0 k y0 y1 y2 y3 y4) (label_locator.l0 (k + 1) y0 y1 y2 y3 y4))
  | 0 => fun _ _ _ _ _ r h => by simp [label_locator.l0] at h
  | k + 1 => by
    have ih0 := label_locator.mono_l k
    · intro y0 y1 y2 y3 y4
      unfold label_locator.l0
      repeat' first
      | (with_reducible exact ih0 _ _ _ _ _)
      | (with_reducible exact LeO.refl _)
      | (with_reducible exact LeO.none _)
      | (with_reducible refine LeO.ite ?_ ?_)
      | (with_reducible refine LeO.bind ?_ (fun _ => ?_))
      | exact ih0 _ _ _ _ _
      | exact LeO.none _
      | refine LeO.ite ?_ ?_
      | refine LeO.bind ?_ (fun _ => ?_)
theorem label_locator.mono : ∀ a0 a1 k, LeO (label_locator.f k a0 a1) (label_locator.f (k + 1) a0 a1) := by
  intro a0 a1 k
  have ih0 := label_locator.mono_l k
  unfold label_locator.f
  repeat' first
      | (with_reducible exact ih0 _ _ _ _ _)
      | (with_reducible exact LeO.refl _)
      | (with_reducible exact LeO.none _)
      | (with_reducible refine LeO.ite ?_ ?_)
      | (with_reducible refine LeO.bind ?_ (fun _ => ?_))
      | exact ih0 _ _ _ _ _
      | exact LeO.none _
      | refine LeO.ite ?_ ?_
      | refine LeO.bind ?_ (fun _ => ?_)
set_option maxHeartbeats 8000000 in
set_option maxRecDepth 100000 in
theorem label_locator.calls (k : Nat) (a0 : Int) (A1 : Option Addr) (c1 : Nat) (l1 : List Int) (r : List Int) (w : World) (hr1 : Kd.C (Kd.int .i64) w A1 l1.length l1) (hc1 : l1.length ≤ c1) (h : label_locator.f k a0 l1 = some r) :
    Calls Try.prog 44 #[.int .i64 a0, .slice A1 l1.length c1] w fun e w' => ∃ v0_ : Value, e = .returned (v0_) ∧ Kd.R (Kd.int .u8) 5 w' w.heap.size (fun _ => True) v0_ r ∧ Below w.heap.size w w' := by
  have HR1 := Aside0.mk hr1
  have HC1 := Aside0.mk hc1
  clear hr1 hc1
  have HB := Aside0.mk (Below.refl w.heap.size w)
  have H : (label_locator.l0 k a0 (([1] : List Int)) l1 (l1.length : Int) 0) = some r := h
  clear h
  obtain ⟨y181, hy181⟩ : ∃ y_ : List Int, y_ = (([1] : List Int)) := ⟨_, rfl⟩
  replace H : (label_locator.l0 k a0 y181 l1 (l1.length : Int) 0) = some r := by first | (rw [hy181]; with_reducible exact H) | (have H2_ := (Option.bind_some _ _).symm.trans H; rw [hy181]; with_reducible exact H2_) | (have H2_ := (Option.bind_some _ _).symm.trans H; with_reducible exact H2_) | with_reducible exact H | (rw [hy181]; exact H) | exact H
  have Ny181 := Aside0.mk hy181
  clear hy181
  have H' := Aside0.mk H
  clear H
  go_enter Try.func44, Try.ntmps44
  go_wp2_with (first | ((with_reducible refine gate_dst (N := 8) rfl ?_); refine Kd.R_lit (Kd.int .u8) _ 5 ?hg (N := 8) ?hd (xs := ([1] : List Int)) (inner := [.int .u8 1]) (ok := fun _ => True) (okp := fun _ => True) ?hr ?hp (fun _ hk => hk) trivial (Below.refl _ _) (Nat.le_refl _) (by simp) ?_; (case hd => rfl); (case hg => rfl); (case hr => first | (go_simp; done) | (go_simp; rfl)); (case hp => exact (Reps.one (show Kd.M (Kd.int .u8) _ _ _ 1 [.int .u8 1] from rfl) (Reps.none _ _))); intro v182 w3 ho4 hb hg_ hnew_; clear hg_ hnew_; (first | rw [← Ny181.out] at ho4 | (simp only [Int.reduceToNat] at ho4; rw [← Ny181.out] at ho4)); have n0_ := Aside0.mk (Kd.R_lower ho4 (below_size (by repeat (first | (with_reducible first | exact HB.out | apply below_alloc | apply pw_below_drewN | apply below_drew1) | exact HB.out)))); have n1_ := Aside0.mk (below_step (by repeat (first | (with_reducible first | exact HB.out | apply below_alloc | apply pw_below_drewN | apply below_drew1) | exact HB.out)) hb); clear HB; have HO183 := n0_; have HB := n1_; clear n0_ n1_; clear hb ho4))
  go_loopg [5, 11] k (fun kq v5 v11 w' => ∃ (x5_1 : List Int) (x11_1 : Int), v11 = .int .i64 x11_1 ∧ Aside0 (label_locator.l0 kq a0 x5_1 l1 (l1.length : Int) x11_1 = some r) ∧ Aside0 (kq ≤ k) ∧ Aside0 (Kd.R (Kd.int .u8) 5 w' w.heap.size (fun _ => True) v5 x5_1) ∧ Aside0 (Below w.heap.size w w'))
  case atStart => exact ⟨(y181), (0), (by first | rfl | (simp; done) | (simp [*]; done)), H', ⟨Nat.le_refl _⟩, ⟨by (with_reducible repeat (first | apply Kd.R_alloc | apply Kd.R_drewN | apply Kd.R_drew)); exact HO183.out⟩, ⟨by repeat (first | (with_reducible first | exact HB.out | apply below_alloc | apply pw_below_drewN | apply below_drew1) | exact HB.out)⟩⟩
  case round =>
    clear H'
    try clear c1
    try clear p2
    try clear c4
    obtain ⟨x5_1, x11_1, rfl, HA, HK1, HO_5, HB⟩ := hrel
    cases gk with
    | zero => exact absurd HA.out (by simp [label_locator.l0])
    | succ k1 =>
      have H := HA.out
      clear HA
      simp only [label_locator.l0] at H
      by_cases c5 : x11_1 < (l1.length : Int)
      · rw [if_pos c5] at H
        have c5b0 : decide (x11_1 < (l1.length : Int)) = true := decide_eq_true c5
        clear c5
        by_cases c6 : 0 ≤ x11_1
        · rw [if_pos c6] at H
          have c6b0 : decide (0 ≤ x11_1) = true := decide_eq_true c6
          clear c6
          by_cases c7 : x11_1 < (l1.length : Int)
          · rw [if_pos c7] at H
            have c7b0 : decide (x11_1 < (l1.length : Int)) = true := decide_eq_true c7
            clear c7
            replace H := Option.bind_eq_some_iff.mp H
            obtain ⟨t185, A80, H⟩ := H
            replace H : ((label_times.f x5_1 (([1, t185] : List Int)) (wrap64 ((x5_1.length : Int) + 1))).bind fun t189 => (label_locator.l0 k1 a0 t189 l1 (l1.length : Int) (wrap64 (x11_1 + 1)))) = some r := H
            have A8 := Aside0.mk A80; (try simp only [Int.toNat_natCast] at A8)
            clear A80
            obtain ⟨y186, hy186⟩ : ∃ y_ : List Int, y_ = (([1, t185] : List Int)) := ⟨_, rfl⟩
            replace H : ((label_times.f x5_1 y186 (wrap64 ((x5_1.length : Int) + 1))).bind fun t189 => (label_locator.l0 k1 a0 t189 l1 (l1.length : Int) (wrap64 (x11_1 + 1)))) = some r := by first | (rw [hy186]; with_reducible exact H) | (have H2_ := (Option.bind_some _ _).symm.trans H; rw [hy186]; with_reducible exact H2_) | (have H2_ := (Option.bind_some _ _).symm.trans H; with_reducible exact H2_) | with_reducible exact H | (rw [hy186]; exact H) | exact H
            have Ny186 := Aside0.mk hy186
            clear hy186
            replace H := Option.bind_eq_some_iff.mp H
            obtain ⟨t189, A90, H⟩ := H
            replace H : (label_locator.l0 k1 a0 t189 l1 (l1.length : Int) (wrap64 (x11_1 + 1))) = some r := H
            have A9 := Aside0.mk A90; (try simp only [Int.toNat_natCast] at A9)
            clear A90
            have H' := Aside0.mk H
            clear H
            have p184 : 0 ≤ (x11_1 : Int) := of_decide_eq_true (by first | (with_reducible assumption) | assumption)
            have q184 : x11_1 < (l1.length : Int) := of_decide_eq_true (by first | (with_reducible assumption) | assumption)
            obtain ⟨ad184, e184, hx184_0⟩ := Kd.at_int HR1.out x11_1 p184 q184
            cases e184
            replace hx184_0 := (HB.out.cell (World.block_lt_of_cell? w _ hx184_0)).trans hx184_0
            replace p184 := eq_true p184
            replace q184 := eq_true q184
            go_wp2_with (first | ((with_reducible refine gate_callee (f := 54) rfl ?_); refine goesL_ (some 20) rfl rfl Try.func54 (by kernel_rfl) rfl #[.int .i64 (wrap64 ((wrap64 (a0 - 1)) - (rd l1 x11_1)))] rfl (by (try simp only [List.map_toArray, List.map_cons, List.map_nil]); first | done | rfl | (simp only [List.length_drop, List.length_take]; rfl)) ?_; (with_reducible refine (label_exp.calls (wrap64 ((wrap64 (a0 - 1)) - (rd l1 x11_1))) t185 _ A8.out).mono ?_); rintro e w10 ⟨rfl, hb⟩; refine ⟨_, rfl, ?_⟩; have n0_ := Aside0.mk (Kd.R_below (by (with_reducible repeat (first | apply Kd.R_alloc | apply Kd.R_drewN | apply Kd.R_drew)); exact HO_5.out) hb); have n1_ := Aside0.mk (below_step (by repeat (first | (with_reducible first | exact HB.out | apply below_alloc | apply pw_below_drewN | apply below_drew1) | exact HB.out)) hb); clear HO_5; clear HB; have HO_5 := n0_; have HB := n1_; clear n0_ n1_; (try clear hb); (try clear hb2); (try clear hk); (try clear hi)) | ((with_reducible refine gate_dst (N := 21) rfl ?_); refine Kd.R_lit (Kd.int .u8) _ 5 ?hg (N := 21) ?hd (xs := ([1, t185] : List Int)) (inner := [.int .u8 1, .int .u8 t185]) (ok := fun _ => True) (okp := fun _ => True) ?hr ?hp (fun _ hk => hk) trivial (Below.refl _ _) (Nat.le_refl _) (by simp) ?_; (case hd => rfl); (case hg => rfl); (case hr => first | (go_simp; done) | (go_simp; rfl)); (case hp => exact (Reps.one (show Kd.M (Kd.int .u8) _ _ _ 1 [.int .u8 1] from rfl) (Reps.one (show Kd.M (Kd.int .u8) _ _ _ t185 [.int .u8 t185] from rfl) (Reps.none _ _)))); intro v187 w11 ho12 hb hg_ hnew_; clear hg_ hnew_; (first | rw [← Ny186.out] at ho12 | (simp only [Int.reduceToNat] at ho12; rw [← Ny186.out] at ho12)); have n0_ := Aside0.mk (Kd.R_elder' (by (with_reducible repeat (first | apply Kd.R_alloc | apply Kd.R_drewN | apply Kd.R_drew)); exact HO_5.out) (Kd.R_base ho12) hb); have n1_ := Aside0.mk (Kd.R_lower (Kd.R_new' ho12 (Kd.R_lt (by (with_reducible repeat (first | apply Kd.R_alloc | apply Kd.R_drewN | apply Kd.R_drew)); exact HO_5.out))) (below_size (by repeat (first | (with_reducible first | exact HB.out | apply below_alloc | apply pw_below_drewN | apply below_drew1) | exact HB.out)))); have n2_ := Aside0.mk (below_step (by repeat (first | (with_reducible first | exact HB.out | apply below_alloc | apply pw_below_drewN | apply below_drew1) | exact HB.out)) hb); clear HO_5; clear HB; have HO_5 := n0_; have HO188 := n1_; have HB := n2_; clear n0_ n1_ n2_; clear hb ho12; obtain ⟨Ao13, co13, eo13⟩ := Kd.R_slice HO_5.out; subst eo13; obtain ⟨Ao14, co14, eo14⟩ := Kd.R_slice HO188.out; subst eo14) | ((with_reducible refine gate_callee (f := 53) rfl ?_); refine goesL_ (some 25) rfl rfl Try.func53 (by kernel_rfl) rfl #[.slice Ao13 x5_1.length co13, .slice Ao14 y186.length co14, .int .i64 (wrap64 ((x5_1.length : Int) + 1))] rfl (by (try simp only [List.map_toArray, List.map_cons, List.map_nil]); first | done | rfl | (simp only [List.length_drop, List.length_take]; rfl)) ?_; (with_reducible refine (label_times.calls _ _ x5_1 _ _ y186 (wrap64 ((x5_1.length : Int) + 1)) t189 _ ?side1 ?side2 ?side3 ?side4 A9.out).mono ?_); (case side1 => repeat (first | exact (Kd.R_reads' HO_5.out).2.2 | (with_reducible refine Kd.C_alloc ?_ _) | (with_reducible refine Kd.C_drewN ?_ _) | (with_reducible refine Kd.C_drew ?_))); (case side2 => exact (Kd.R_reads' HO_5.out).2.1); (case side3 => repeat (first | exact (Kd.R_reads' HO188.out).2.2 | (with_reducible refine Kd.C_alloc ?_ _) | (with_reducible refine Kd.C_drewN ?_ _) | (with_reducible refine Kd.C_drew ?_))); (case side4 => exact (Kd.R_reads' HO188.out).2.1); rintro e w15 ⟨v190, rfl, ho0, hb⟩; refine ⟨_, rfl, ?_⟩; have n0_ := Aside0.mk (Kd.R_elder' (by (with_reducible repeat (first | apply Kd.R_alloc | apply Kd.R_drewN | apply Kd.R_drew)); exact HO_5.out) (Kd.R_base ho0) hb); have n1_ := Aside0.mk (Kd.R_elder' (by (with_reducible repeat (first | apply Kd.R_alloc | apply Kd.R_drewN | apply Kd.R_drew)); exact HO188.out) (Kd.R_base ho0) hb); have n2_ := Aside0.mk (Kd.R_lower (Kd.R_new' (Kd.R_new' ho0 (Kd.R_lt (by (with_reducible repeat (first | apply Kd.R_alloc | apply Kd.R_drewN | apply Kd.R_drew)); exact HO_5.out))) (Kd.R_lt (by (with_reducible repeat (first | apply Kd.R_alloc | apply Kd.R_drewN | apply Kd.R_drew)); exact HO188.out))) (below_size (by repeat (first | (with_reducible first | exact HB.out | apply below_alloc | apply pw_below_drewN | apply below_drew1) | exact HB.out)))); have n3_ := Aside0.mk (below_step (by repeat (first | (with_reducible first | exact HB.out | apply below_alloc | apply pw_below_drewN | apply below_drew1) | exact HB.out)) hb); clear HO_5; clear HO188; clear HB; have HO_5 := n0_; have HO188 := n1_; have HO191 := n2_; have HB := n3_; clear n0_ n1_ n2_ n3_; (try clear hb); (try clear hb2); (try clear hk); (try clear hi); (try clear ho0)))
            go_roundg k1
            case measure => have := HK1.out; omega
            case rel => exact ⟨(t189), (wrap64 (x11_1 + 1)), (by first | rfl | (simp; done) | (simp [*]; done)), H', ⟨by have := HK1.out; omega⟩, ⟨by (with_reducible repeat (first | apply Kd.R_alloc | apply Kd.R_drewN | apply Kd.R_drew)); exact Kd.R_mono HO191.out (fun _ hk => trivial)⟩, ⟨by repeat (first | (with_reducible first | exact HB.out | apply below_alloc | apply pw_below_drewN | apply below_drew1) | exact HB.out)⟩⟩
          · rw [if_neg c7] at H
            exact absurd H (by simp)
        · rw [if_neg c6] at H
          exact absurd H (by simp)
      · rw [if_neg c5] at H
        have c5b0 : decide (x11_1 < (l1.length : Int)) = false := decide_eq_false c5
        clear c5
        obtain rfl := Option.some.inj H
        go_wp2
        go_ret
        exact ⟨_, by first | rfl | (simp [errW_none, errW_some] <;> rfl) | (simp [*, errW_none, errW_some] <;> rfl), by (with_reducible repeat (first | apply Kd.R_alloc | apply Kd.R_drewN | apply Kd.R_drew)); exact HO_5.out, by repeat (first | (with_reducible first | exact HB.out | apply below_alloc | apply pw_below_drewN | apply below_drew1) | exact HB.out)⟩

/-! ### label_changes: function 45, by hand -/

/-! ### label_Decode: function 20, by hand -/
def decOut (k : Nat) (w : List Int) (p : Int) (l : List Int) : Option (Bool × List Int) :=
  (label_syndromes.f k w p).bind fun s => (label_zero.f k s).bind fun z => if z = true then some (true, w) else
    (label_locator.f k (w.length : Int) l).bind fun lc => (label_find.f k s lc).bind fun wh => (label_repair.f k w s wh).bind fun r => some (false, r)
def decEnd (k : Nat) (w : List Int) (p : Int) (l out : List Int) : Option (ByteArray × Int × Int) :=
  (label_changes.f w out l).bind fun c => if 0 ≤ c.2 ∧ c.2 ≤ 100000 ∧ (l.length : Int) ≤ 255 ∧ 0 ≤ (out.length : Int) - p ∧ (out.length : Int) ≤ 100000 then
    (if 2 * c.2 + (l.length : Int) > p then some (⟨#[]⟩, 0, 6) else
      (label_syndromes.f k out p).bind fun s => (label_zero.f k s).bind fun z => if z = true then some (strOfNums (out.take ((out.length : Int) - p).toNat), c.1, 0) else some (⟨#[]⟩, 0, 6)) else none
def label_Decode.f (k : Nat) (a0 : ByteArray) (a1 : Int) (l2 : List Int) : Option (ByteArray × Int × Int) :=
  if a0.size ≤ 100000 then
  (label_spots.f l2 (a0.size : Int)).bind fun sp => (label_isParameters.f (a0.size : Int) a1).bind fun t =>
    if t = false then some (⟨#[]⟩, 0, 2) else if sp.2 = false then some (⟨#[]⟩, 0, 2) else
    if 0 ≤ a1 ∧ a1 ≤ 64 then
    (if (sp.1.length : Int) > a1 then some (⟨#[]⟩, 0, 6) else (decOut k (bytesOf a0) a1 sp.1).bind fun o => decEnd k (bytesOf a0) a1 sp.1 o.2) else none
  else none
theorem decOut.mono : ∀ w p l k, LeO (decOut k w p l) (decOut (k + 1) w p l) := by
  intro w p l k
  unfold decOut
  repeat' first
      | (with_reducible exact label_syndromes.mono _ _ _)
      | (with_reducible exact label_zero.mono _ _)
      | (with_reducible exact label_locator.mono _ _ _)
      | (with_reducible exact label_find.mono _ _ _)
      | (with_reducible exact label_repair.mono _ _ _ _)
      | (with_reducible exact LeO.refl _)
      | (with_reducible refine LeO.ite ?_ ?_)
      | (with_reducible refine LeO.bind ?_ (fun _ => ?_))
theorem decEnd.mono : ∀ w p l out k, LeO (decEnd k w p l out) (decEnd (k + 1) w p l out) := by
  intro w p l out k
  unfold decEnd
  repeat' first
      | (with_reducible exact label_syndromes.mono _ _ _)
      | (with_reducible exact label_zero.mono _ _)
      | (with_reducible exact LeO.refl _)
      | (with_reducible refine LeO.ite ?_ ?_)
      | (with_reducible refine LeO.bind ?_ (fun _ => ?_))
theorem label_Decode.mono : ∀ a0 a1 a2 k, LeO (label_Decode.f k a0 a1 a2) (label_Decode.f (k + 1) a0 a1 a2) := by
  intro a0 a1 a2 k
  unfold label_Decode.f
  repeat' first
      | (with_reducible exact decOut.mono _ _ _ _)
      | (with_reducible exact decEnd.mono _ _ _ _ _)
      | (with_reducible exact LeO.refl _)
      | (with_reducible refine LeO.ite ?_ ?_)
      | (with_reducible refine LeO.bind ?_ (fun _ => ?_))
theorem bytes_C (W : World) (s : ByteArray) (hs : s.size ≤ 100000) : (Kd.int .u8).C (Lib.bytesWorld W 5 s) (some ⟨W.heap.size, 0, none⟩) s.size (bytesOf s) :=
  Kd.C_of_reads (enc := Value.int .u8) (h1 := fun _ => rfl) (d := (0 : Int)) (bytes_reads W 5 s (by omega))
theorem syndromes_at (k : Nat) (A0 : Option Addr) (n c0 : Nat) (l0 : List Int) (a1 : Int) (r : List Int) (w : World) (hn : l0.length = n) (hr0 : Kd.C (Kd.int .u8) w A0 n l0) (hc0 : n ≤ c0) (h : label_syndromes.f k l0 a1 = some r) :
    Calls Try.prog 40 #[.slice A0 n c0, .int .i64 a1] w fun e w' => ∃ v0_ : Value, e = .returned (v0_) ∧ Kd.R (Kd.int .u8) 5 w' w.heap.size (fun _ => True) v0_ r ∧ Below w.heap.size w w' := by
  subst hn; exact label_syndromes.calls k A0 c0 l0 a1 r w hr0 hc0 h
theorem bytes_size (W : World) (s : ByteArray) : (Lib.bytesWorld W 5 s).heap.size = W.heap.size + 1 := Lib.bytesWorld_size W _ s
theorem C_len {A : Option Addr} {n : Nat} {xs : List Int} {k : IntKind} {w : World} (h : Kd.C (Kd.int k) w A n xs) : xs.length = n := (Kd.reads_of_C (enc := Value.int k) (d := (0 : Int)) (h1 := fun _ => rfl) h).1
theorem zero_at (k : Nat) (A0 : Option Addr) (n c0 : Nat) (l0 : List Int) (r : Bool) (w : World) (hn : l0.length = n) (hr0 : Kd.C (Kd.int .u8) w A0 n l0) (hc0 : n ≤ c0) (h : label_zero.f k l0 = some r) :
    Calls Try.prog 41 #[.slice A0 n c0] w fun e w' => e = .returned (.bool r) ∧ Drawn0 w w' := by
  subst hn; exact label_zero.calls k A0 c0 l0 r w hr0 hc0 h
theorem repair_at (k : Nat) (A0 : Option Addr) (n c0 : Nat) (l0 : List Int) (A1 : Option Addr) (c1 : Nat) (l1 : List Int) (A2 : Option Addr) (c2 : Nat) (l2 : List Int) (r : List Int) (w : World) (hn : l0.length = n) (hr0 : Kd.C (Kd.int .u8) w A0 n l0) (hc0 : n ≤ c0) (hr1 : Kd.C (Kd.int .u8) w A1 l1.length l1) (hc1 : l1.length ≤ c1) (hr2 : Kd.C (Kd.int .u8) w A2 l2.length l2) (hc2 : l2.length ≤ c2) (h : label_repair.f k l0 l1 l2 = some r) :
    Calls Try.prog 42 #[.slice A0 n c0, .slice A1 l1.length c1, .slice A2 l2.length c2] w fun e w' => ∃ v0_ : Value, e = .returned (v0_) ∧ Kd.R (Kd.int .u8) 5 w' w.heap.size (fun _ => True) v0_ r ∧ Below w.heap.size w w' := by
  subst hn; exact label_repair.calls k A0 c0 l0 A1 c1 l1 A2 c2 l2 r w hr0 hc0 hr1 hc1 hr2 hc2 h
theorem changes_at (A0 : Option Addr) (n0 c0 : Nat) (l0 : List Int) (A1 : Option Addr) (n1 c1 : Nat) (l1 : List Int) (A2 : Option Addr) (c2 : Nat) (l2 : List Int) (r1 r2 : Int) (w : World) (h0 : l0.length = n0) (h1 : l1.length = n1)
    (hr0 : Kd.C (Kd.int .u8) w A0 n0 l0) (hc0 : n0 ≤ c0) (hr1 : Kd.C (Kd.int .u8) w A1 n1 l1) (hc1 : n1 ≤ c1) (hr2 : Kd.C (Kd.int .i64) w A2 l2.length l2) (hc2 : l2.length ≤ c2) (h : label_changes.f l0 l1 l2 = some (r1, r2)) :
    Calls Try.prog 45 #[.slice A0 n0 c0, .slice A1 n1 c1, .slice A2 l2.length c2] w fun e w' => e = .returned (.tuple #[.int .i64 r1, .int .i64 r2]) ∧ Below w.heap.size w w' := by
  subst h0; subst h1; exact label_changes.calls A0 c0 l0 A1 c1 l1 A2 c2 l2 r1 r2 w hr0 hc0 hr1 hc1 hr2 hc2 h
set_option maxHeartbeats 4000000 in
set_option maxRecDepth 100000 in
theorem dec_par (k : Nat) (a0 : ByteArray) (a1 : Int) (A2 : Option Addr) (c2 : Nat) (l2 : List Int) (sl : List Int) (w : World) (hr2 : Kd.C (Kd.int .i64) w A2 l2.length l2) (hc2 : l2.length ≤ c2) (hs : a0.size ≤ 100000) (bs : Bool) (hsp : label_spots.f l2 (a0.size : Int) = some (sl, bs)) (hp : label_isParameters.f (a0.size : Int) a1 = some false) :
    Calls Try.prog 20 #[.string a0, .int .i64 a1, .slice A2 l2.length c2] w fun e w' => e = .returned (.tuple #[.string ⟨#[]⟩, .int .i64 0, .int .i64 2]) ∧ Below w.heap.size w w' := by
  have HR2 := Aside0.mk hr2
  have HC2 := Aside0.mk hc2
  have HSZ := hid hs
  have hs1 : (a0.size : Int) ≤ 100000 := by omega
  clear hr2 hc2 hs
  have HSP := hid hsp
  have HP := hid hp
  clear hsp hp
  go_enter Try.func20, Try.ntmps20
  go_wp2_with (first | (go_at_call 39; refine (label_spots.calls A2 c2 l2 _ sl bs _ HR2.out HC2.out HSP.out).mono ?_; rintro e w1 ⟨vl, rfl, ho, hb⟩; obtain ⟨AL, cL, eL⟩ := Kd.R_slice ho; subst eL; have HOL := Aside0.mk (Kd.R_reads' ho).2.2; have HCL := Aside0.mk (Kd.R_reads' ho).2.1; have HBB := Aside0.mk hb; clear ho hb) | (go_at_call 34; refine (label_isParameters.calls _ _ false _ HP.out).mono ?_; rintro e w2 ⟨rfl, ⟨nd, rfl⟩⟩))
  go_ret3
  exact ⟨rfl, pw_below_drewN HBB.out _⟩
set_option maxHeartbeats 4000000 in
set_option maxRecDepth 100000 in
theorem dec_spot (k : Nat) (a0 : ByteArray) (a1 : Int) (A2 : Option Addr) (c2 : Nat) (l2 : List Int) (sl : List Int) (w : World) (hr2 : Kd.C (Kd.int .i64) w A2 l2.length l2) (hc2 : l2.length ≤ c2) (hs : a0.size ≤ 100000) (bs : Bool) (hsp : label_spots.f l2 (a0.size : Int) = some (sl, false)) (hp : label_isParameters.f (a0.size : Int) a1 = some true) :
    Calls Try.prog 20 #[.string a0, .int .i64 a1, .slice A2 l2.length c2] w fun e w' => e = .returned (.tuple #[.string ⟨#[]⟩, .int .i64 0, .int .i64 2]) ∧ Below w.heap.size w w' := by
  have HR2 := Aside0.mk hr2
  have HC2 := Aside0.mk hc2
  have HSZ := hid hs
  have hs1 : (a0.size : Int) ≤ 100000 := by omega
  clear hr2 hc2 hs
  have HSP := hid hsp
  have HP := hid hp
  clear hsp hp
  go_enter Try.func20, Try.ntmps20
  go_wp2_with (first | (go_at_call 39; refine (label_spots.calls A2 c2 l2 _ sl false _ HR2.out HC2.out HSP.out).mono ?_; rintro e w1 ⟨vl, rfl, ho, hb⟩; obtain ⟨AL, cL, eL⟩ := Kd.R_slice ho; subst eL; have HOL := Aside0.mk (Kd.R_reads' ho).2.2; have HCL := Aside0.mk (Kd.R_reads' ho).2.1; have HBB := Aside0.mk hb; clear ho hb) | (go_at_call 34; refine (label_isParameters.calls _ _ true _ HP.out).mono ?_; rintro e w2 ⟨rfl, ⟨nd, rfl⟩⟩))
  go_ret3
  exact ⟨rfl, pw_below_drewN HBB.out _⟩
set_option maxHeartbeats 4000000 in
set_option maxRecDepth 100000 in
theorem dec_many (k : Nat) (a0 : ByteArray) (a1 : Int) (A2 : Option Addr) (c2 : Nat) (l2 : List Int) (sl : List Int) (w : World) (hr2 : Kd.C (Kd.int .i64) w A2 l2.length l2) (hc2 : l2.length ≤ c2) (hs : a0.size ≤ 100000) (hsp : label_spots.f l2 (a0.size : Int) = some (sl, true)) (hp : label_isParameters.f (a0.size : Int) a1 = some true) (hlen : (sl.length : Int) > a1) :
    Calls Try.prog 20 #[.string a0, .int .i64 a1, .slice A2 l2.length c2] w fun e w' => e = .returned (.tuple #[.string ⟨#[]⟩, .int .i64 0, .int .i64 6]) ∧ Below w.heap.size w w' := by
  have HR2 := Aside0.mk hr2
  have HC2 := Aside0.mk hc2
  have HSZ := hid hs
  have hs1 : (a0.size : Int) ≤ 100000 := by omega
  clear hr2 hc2 hs
  have HSP := hid hsp
  have HP := hid hp
  have d1 : decide (a1 < (sl.length : Int)) = true := decide_eq_true (by omega)
  clear hsp hp hlen
  go_enter Try.func20, Try.ntmps20
  go_wp2_with (first | (go_at_call 39; refine (label_spots.calls A2 c2 l2 _ sl true _ HR2.out HC2.out HSP.out).mono ?_; rintro e w1 ⟨vl, rfl, ho, hb⟩; obtain ⟨AL, cL, eL⟩ := Kd.R_slice ho; subst eL; have HOL := Aside0.mk (Kd.R_reads' ho).2.2; have HCL := Aside0.mk (Kd.R_reads' ho).2.1; have HBB := Aside0.mk hb; clear ho hb) | (go_at_call 34; refine (label_isParameters.calls _ _ true _ HP.out).mono ?_; rintro e w2 ⟨rfl, ⟨nd, rfl⟩⟩))
  go_ret3
  exact ⟨rfl, pw_below_drewN HBB.out _⟩
set_option maxHeartbeats 4000000 in
set_option maxRecDepth 100000 in
theorem dec_clean_far (k : Nat) (a0 : ByteArray) (a1 : Int) (A2 : Option Addr) (c2 : Nat) (l2 : List Int) (sl : List Int) (w : World) (hr2 : Kd.C (Kd.int .i64) w A2 l2.length l2) (hc2 : l2.length ≤ c2) (hs : a0.size ≤ 100000) (st lc wh out : List Int) (ca cb : Int) (s2 : List Int) (hsp : label_spots.f l2 (a0.size : Int) = some (sl, true)) (hp : label_isParameters.f (a0.size : Int) a1 = some true) (ha0 : 0 ≤ a1) (ha1 : a1 ≤ 64) (hlen : (sl.length : Int) ≤ a1) (hst : label_syndromes.f k (bytesOf a0) a1 = some st) (hz : label_zero.f k st = some true) (hout : out = bytesOf a0) (hch : label_changes.f (bytesOf a0) out sl = some (ca, cb)) (hb0 : 0 ≤ cb) (hb1 : cb ≤ 100000) (hol : (out.length : Int) ≤ 100000) (hop : 0 ≤ (out.length : Int) - a1) (hfar : 2 * cb + (sl.length : Int) > a1) :
    Calls Try.prog 20 #[.string a0, .int .i64 a1, .slice A2 l2.length c2] w fun e w' => e = .returned (.tuple #[.string ⟨#[]⟩, .int .i64 0, .int .i64 6]) ∧ Below w.heap.size w w' := by
  have HR2 := Aside0.mk hr2
  have HC2 := Aside0.mk hc2
  have HSZ := hid hs
  have hs1 : (a0.size : Int) ≤ 100000 := by omega
  clear hr2 hc2 hs
  have HSP := hid hsp
  have HP := hid hp
  have d1 : decide (a1 < (sl.length : Int)) = false := decide_eq_false (by omega)
  have HST := hid hst
  have HZ := hid hz
  have HCH := hid hch
  have d2 : decide (a1 < 2 * cb + (sl.length : Int)) = true := decide_eq_true (by omega)
  have hsl : (sl.length : Int) ≤ 64 := by omega
  have HBL := hid (bytesOf_length a0)
  have kb := fun W => print_bytes (P := Try.prog) 9 58 5 Try.underlying9 Try.underlying58 Try.underlying5 a0 W
  clear hsp hp hst hz hch hlen hfar
  have HOUT := hid hout
  clear hout
  go_enter Try.func20, Try.ntmps20
  go_wp2_with (first | (go_at_call 39; refine (label_spots.calls A2 c2 l2 _ sl true _ HR2.out HC2.out HSP.out).mono ?_; rintro e w1 ⟨vl, rfl, ho, hb⟩; obtain ⟨AL, cL, eL⟩ := Kd.R_slice ho; subst eL; have HOL := Aside0.mk (Kd.R_reads' ho).2.2; have HCL := Aside0.mk (Kd.R_reads' ho).2.1; have HBB := Aside0.mk hb; clear ho hb) | (go_at_call 34; refine (label_isParameters.calls _ _ true _ HP.out).mono ?_; rintro e w2 ⟨rfl, ⟨nd, rfl⟩⟩))
  have hW : Kd.C (Kd.int .u8) (Lib.bytesWorld (w1.drewN nd) 5 a0) (some ⟨w1.heap.size, 0, none⟩) a0.size (bytesOf a0) := bytes_C (w1.drewN nd) a0 HSZ.out
  have hbw := bytes_below (pw_below_drewN (Below.refl w1.heap.size w1) nd) (by simp [World.drewN]) 5 a0
  have hcap := grownCap_ge (w1.drewN nd) a0.size 0 5
  obtain ⟨W, eW⟩ : ∃ W, W = Lib.bytesWorld (w1.drewN nd) 5 a0 := ⟨_, rfl⟩
  obtain ⟨cp, ecp⟩ : ∃ cp, cp = grownCap (w1.drewN nd) a0.size 0 5 := ⟨_, rfl⟩
  obtain ⟨gw, egw⟩ : ∃ gw, gw = w1.heap.size := ⟨_, rfl⟩
  (try simp only [← eW, ← ecp, ← egw])
  rw [← eW, ← egw] at hW
  rw [← eW] at hbw
  rw [← ecp] at hcap
  have HW := Aside0.mk hW
  have HCP := Aside0.mk hcap
  have HBB := Aside0.mk (HBB.out.trans (hbw.mono HBB.out.size))
  have HOL := Aside0.mk (Kd.C_below HOL.out hbw)
  clear hW hcap hbw eW ecp egw kb
  refine (syndromes_at k _ _ _ _ a1 st _ HBL.out HW.out HCP.out HST.out).mono ?_
  rintro e w3 ⟨vs, rfl, ho, hb⟩
  obtain ⟨AS, cS, eS⟩ := Kd.R_slice ho
  subst eS
  have HOS := Aside0.mk (Kd.R_reads' ho).2.2
  have HCS := Aside0.mk (Kd.R_reads' ho).2.1
  have HW3 := Aside0.mk (Kd.C_below HW.out hb)
  have HOL3 := Aside0.mk (Kd.C_below HOL.out hb)
  have HB3 := Aside0.mk (HBB.out.trans (hb.mono HBB.out.size))
  clear ho hb HW HOL HBB
  go_wp2_with (go_at_call 41; refine (label_zero.calls k _ _ _ true _ HOS.out HCS.out HZ.out).mono ?_; rintro e w4 ⟨rfl, ⟨nz, rfl⟩⟩)
  refine (changes_at _ _ _ (bytesOf a0) _ _ _ out _ _ sl ca cb _ HBL.out (by rw [HOUT.out]; exact HBL.out) (Kd.C_drewN HW3.out _) HCP.out (by rw [HOUT.out]; exact Kd.C_drewN HW3.out _) HCP.out (Kd.C_drewN HOL3.out _) HCL.out HCH.out).mono ?_
  rintro e w5 ⟨rfl, hb⟩
  have HO5 := Aside0.mk (show Kd.C (Kd.int .u8) w5 (some ⟨gw, 0, none⟩) a0.size out by rw [HOUT.out]; exact Kd.C_below (Kd.C_drewN HW3.out nz) hb)
  have HOC := Aside0.mk HCP.out
  have HON := hid (show out.length = a0.size by rw [HOUT.out]; exact HBL.out)
  have HB5 := Aside0.mk ((pw_below_drewN HB3.out nz).trans (hb.mono (by simpa [World.drewN] using HB3.out.size)))
  clear hb
  go_wp2
  go_ret3
  exact ⟨rfl, HB5.out⟩
set_option maxHeartbeats 4000000 in
set_option maxRecDepth 100000 in
theorem dec_clean_bad (k : Nat) (a0 : ByteArray) (a1 : Int) (A2 : Option Addr) (c2 : Nat) (l2 : List Int) (sl : List Int) (w : World) (hr2 : Kd.C (Kd.int .i64) w A2 l2.length l2) (hc2 : l2.length ≤ c2) (hs : a0.size ≤ 100000) (st lc wh out : List Int) (ca cb : Int) (s2 : List Int) (hsp : label_spots.f l2 (a0.size : Int) = some (sl, true)) (hp : label_isParameters.f (a0.size : Int) a1 = some true) (ha0 : 0 ≤ a1) (ha1 : a1 ≤ 64) (hlen : (sl.length : Int) ≤ a1) (hst : label_syndromes.f k (bytesOf a0) a1 = some st) (hz : label_zero.f k st = some true) (hout : out = bytesOf a0) (hch : label_changes.f (bytesOf a0) out sl = some (ca, cb)) (hb0 : 0 ≤ cb) (hb1 : cb ≤ 100000) (hol : (out.length : Int) ≤ 100000) (hop : 0 ≤ (out.length : Int) - a1) (hfar : ¬ 2 * cb + (sl.length : Int) > a1) (hs2 : label_syndromes.f k out a1 = some s2) (hz2 : label_zero.f k s2 = some false) :
    Calls Try.prog 20 #[.string a0, .int .i64 a1, .slice A2 l2.length c2] w fun e w' => e = .returned (.tuple #[.string ⟨#[]⟩, .int .i64 0, .int .i64 6]) ∧ Below w.heap.size w w' := by
  have HR2 := Aside0.mk hr2
  have HC2 := Aside0.mk hc2
  have HSZ := hid hs
  have hs1 : (a0.size : Int) ≤ 100000 := by omega
  clear hr2 hc2 hs
  have HSP := hid hsp
  have HP := hid hp
  have d1 : decide (a1 < (sl.length : Int)) = false := decide_eq_false (by omega)
  have HST := hid hst
  have HZ := hid hz
  have HCH := hid hch
  have d2 : decide (a1 < 2 * cb + (sl.length : Int)) = false := decide_eq_false (by omega)
  have HS2 := hid hs2
  have HZ2 := hid hz2
  clear hs2 hz2
  have hsl : (sl.length : Int) ≤ 64 := by omega
  have HBL := hid (bytesOf_length a0)
  have kb := fun W => print_bytes (P := Try.prog) 9 58 5 Try.underlying9 Try.underlying58 Try.underlying5 a0 W
  clear hsp hp hst hz hch hlen hfar
  have HOUT := hid hout
  clear hout
  go_enter Try.func20, Try.ntmps20
  go_wp2_with (first | (go_at_call 39; refine (label_spots.calls A2 c2 l2 _ sl true _ HR2.out HC2.out HSP.out).mono ?_; rintro e w1 ⟨vl, rfl, ho, hb⟩; obtain ⟨AL, cL, eL⟩ := Kd.R_slice ho; subst eL; have HOL := Aside0.mk (Kd.R_reads' ho).2.2; have HCL := Aside0.mk (Kd.R_reads' ho).2.1; have HBB := Aside0.mk hb; clear ho hb) | (go_at_call 34; refine (label_isParameters.calls _ _ true _ HP.out).mono ?_; rintro e w2 ⟨rfl, ⟨nd, rfl⟩⟩))
  have hW : Kd.C (Kd.int .u8) (Lib.bytesWorld (w1.drewN nd) 5 a0) (some ⟨w1.heap.size, 0, none⟩) a0.size (bytesOf a0) := bytes_C (w1.drewN nd) a0 HSZ.out
  have hbw := bytes_below (pw_below_drewN (Below.refl w1.heap.size w1) nd) (by simp [World.drewN]) 5 a0
  have hcap := grownCap_ge (w1.drewN nd) a0.size 0 5
  obtain ⟨W, eW⟩ : ∃ W, W = Lib.bytesWorld (w1.drewN nd) 5 a0 := ⟨_, rfl⟩
  obtain ⟨cp, ecp⟩ : ∃ cp, cp = grownCap (w1.drewN nd) a0.size 0 5 := ⟨_, rfl⟩
  obtain ⟨gw, egw⟩ : ∃ gw, gw = w1.heap.size := ⟨_, rfl⟩
  (try simp only [← eW, ← ecp, ← egw])
  rw [← eW, ← egw] at hW
  rw [← eW] at hbw
  rw [← ecp] at hcap
  have HW := Aside0.mk hW
  have HCP := Aside0.mk hcap
  have HBB := Aside0.mk (HBB.out.trans (hbw.mono HBB.out.size))
  have HOL := Aside0.mk (Kd.C_below HOL.out hbw)
  clear hW hcap hbw eW ecp egw kb
  refine (syndromes_at k _ _ _ _ a1 st _ HBL.out HW.out HCP.out HST.out).mono ?_
  rintro e w3 ⟨vs, rfl, ho, hb⟩
  obtain ⟨AS, cS, eS⟩ := Kd.R_slice ho
  subst eS
  have HOS := Aside0.mk (Kd.R_reads' ho).2.2
  have HCS := Aside0.mk (Kd.R_reads' ho).2.1
  have HW3 := Aside0.mk (Kd.C_below HW.out hb)
  have HOL3 := Aside0.mk (Kd.C_below HOL.out hb)
  have HB3 := Aside0.mk (HBB.out.trans (hb.mono HBB.out.size))
  clear ho hb HW HOL HBB
  go_wp2_with (go_at_call 41; refine (label_zero.calls k _ _ _ true _ HOS.out HCS.out HZ.out).mono ?_; rintro e w4 ⟨rfl, ⟨nz, rfl⟩⟩)
  refine (changes_at _ _ _ (bytesOf a0) _ _ _ out _ _ sl ca cb _ HBL.out (by rw [HOUT.out]; exact HBL.out) (Kd.C_drewN HW3.out _) HCP.out (by rw [HOUT.out]; exact Kd.C_drewN HW3.out _) HCP.out (Kd.C_drewN HOL3.out _) HCL.out HCH.out).mono ?_
  rintro e w5 ⟨rfl, hb⟩
  have HO5 := Aside0.mk (show Kd.C (Kd.int .u8) w5 (some ⟨gw, 0, none⟩) a0.size out by rw [HOUT.out]; exact Kd.C_below (Kd.C_drewN HW3.out nz) hb)
  have HOC := Aside0.mk HCP.out
  have HON := hid (show out.length = a0.size by rw [HOUT.out]; exact HBL.out)
  have HB5 := Aside0.mk ((pw_below_drewN HB3.out nz).trans (hb.mono (by simpa [World.drewN] using HB3.out.size)))
  clear hb
  go_wp2_with (fail)
  refine (syndromes_at k _ _ _ _ a1 s2 _ HON.out HO5.out HOC.out HS2.out).mono ?_
  rintro e w9 ⟨v2, rfl, ho, hb⟩
  obtain ⟨A9, c9, e9⟩ := Kd.R_slice ho
  subst e9
  have HO9 := Aside0.mk (Kd.R_reads' ho).2.2
  have HC9 := Aside0.mk (Kd.R_reads' ho).2.1
  have HX9 := Aside0.mk (Kd.C_below HO5.out hb)
  have HB9 := Aside0.mk (HB5.out.trans (hb.mono HB5.out.size))
  clear ho hb HO5 HB5
  go_wp2_with (go_at_call 41; refine (label_zero.calls k _ _ _ false _ HO9.out HC9.out HZ2.out).mono ?_; rintro e w4 ⟨rfl, ⟨ny, rfl⟩⟩)
  go_ret3
  exact ⟨rfl, pw_below_drewN HB9.out _⟩
set_option maxHeartbeats 4000000 in
set_option maxRecDepth 100000 in
theorem dec_clean_ok (k : Nat) (a0 : ByteArray) (a1 : Int) (A2 : Option Addr) (c2 : Nat) (l2 : List Int) (sl : List Int) (w : World) (hr2 : Kd.C (Kd.int .i64) w A2 l2.length l2) (hc2 : l2.length ≤ c2) (hs : a0.size ≤ 100000) (st lc wh out : List Int) (ca cb : Int) (s2 : List Int) (hsp : label_spots.f l2 (a0.size : Int) = some (sl, true)) (hp : label_isParameters.f (a0.size : Int) a1 = some true) (ha0 : 0 ≤ a1) (ha1 : a1 ≤ 64) (hlen : (sl.length : Int) ≤ a1) (hst : label_syndromes.f k (bytesOf a0) a1 = some st) (hz : label_zero.f k st = some true) (hout : out = bytesOf a0) (hch : label_changes.f (bytesOf a0) out sl = some (ca, cb)) (hb0 : 0 ≤ cb) (hb1 : cb ≤ 100000) (hol : (out.length : Int) ≤ 100000) (hop : 0 ≤ (out.length : Int) - a1) (hfar : ¬ 2 * cb + (sl.length : Int) > a1) (hs2 : label_syndromes.f k out a1 = some s2) (hz2 : label_zero.f k s2 = some true) :
    Calls Try.prog 20 #[.string a0, .int .i64 a1, .slice A2 l2.length c2] w fun e w' => e = .returned (.tuple #[.string (strOfNums (out.take ((out.length : Int) - a1).toNat)), .int .i64 ca, .int .i64 0]) ∧ Below w.heap.size w w' := by
  have HR2 := Aside0.mk hr2
  have HC2 := Aside0.mk hc2
  have HSZ := hid hs
  have hs1 : (a0.size : Int) ≤ 100000 := by omega
  clear hr2 hc2 hs
  have HSP := hid hsp
  have HP := hid hp
  have d1 : decide (a1 < (sl.length : Int)) = false := decide_eq_false (by omega)
  have HST := hid hst
  have HZ := hid hz
  have HCH := hid hch
  have d2 : decide (a1 < 2 * cb + (sl.length : Int)) = false := decide_eq_false (by omega)
  have HS2 := hid hs2
  have HZ2 := hid hz2
  clear hs2 hz2
  have hsl : (sl.length : Int) ≤ 64 := by omega
  have HBL := hid (bytesOf_length a0)
  have kb := fun W => print_bytes (P := Try.prog) 9 58 5 Try.underlying9 Try.underlying58 Try.underlying5 a0 W
  clear hsp hp hst hz hch hlen hfar
  have HOUT := hid hout
  clear hout
  go_enter Try.func20, Try.ntmps20
  go_wp2_with (first | (go_at_call 39; refine (label_spots.calls A2 c2 l2 _ sl true _ HR2.out HC2.out HSP.out).mono ?_; rintro e w1 ⟨vl, rfl, ho, hb⟩; obtain ⟨AL, cL, eL⟩ := Kd.R_slice ho; subst eL; have HOL := Aside0.mk (Kd.R_reads' ho).2.2; have HCL := Aside0.mk (Kd.R_reads' ho).2.1; have HBB := Aside0.mk hb; clear ho hb) | (go_at_call 34; refine (label_isParameters.calls _ _ true _ HP.out).mono ?_; rintro e w2 ⟨rfl, ⟨nd, rfl⟩⟩))
  have hW : Kd.C (Kd.int .u8) (Lib.bytesWorld (w1.drewN nd) 5 a0) (some ⟨w1.heap.size, 0, none⟩) a0.size (bytesOf a0) := bytes_C (w1.drewN nd) a0 HSZ.out
  have hbw := bytes_below (pw_below_drewN (Below.refl w1.heap.size w1) nd) (by simp [World.drewN]) 5 a0
  have hcap := grownCap_ge (w1.drewN nd) a0.size 0 5
  obtain ⟨W, eW⟩ : ∃ W, W = Lib.bytesWorld (w1.drewN nd) 5 a0 := ⟨_, rfl⟩
  obtain ⟨cp, ecp⟩ : ∃ cp, cp = grownCap (w1.drewN nd) a0.size 0 5 := ⟨_, rfl⟩
  obtain ⟨gw, egw⟩ : ∃ gw, gw = w1.heap.size := ⟨_, rfl⟩
  (try simp only [← eW, ← ecp, ← egw])
  rw [← eW, ← egw] at hW
  rw [← eW] at hbw
  rw [← ecp] at hcap
  have HW := Aside0.mk hW
  have HCP := Aside0.mk hcap
  have HBB := Aside0.mk (HBB.out.trans (hbw.mono HBB.out.size))
  have HOL := Aside0.mk (Kd.C_below HOL.out hbw)
  clear hW hcap hbw eW ecp egw kb
  refine (syndromes_at k _ _ _ _ a1 st _ HBL.out HW.out HCP.out HST.out).mono ?_
  rintro e w3 ⟨vs, rfl, ho, hb⟩
  obtain ⟨AS, cS, eS⟩ := Kd.R_slice ho
  subst eS
  have HOS := Aside0.mk (Kd.R_reads' ho).2.2
  have HCS := Aside0.mk (Kd.R_reads' ho).2.1
  have HW3 := Aside0.mk (Kd.C_below HW.out hb)
  have HOL3 := Aside0.mk (Kd.C_below HOL.out hb)
  have HB3 := Aside0.mk (HBB.out.trans (hb.mono HBB.out.size))
  clear ho hb HW HOL HBB
  go_wp2_with (go_at_call 41; refine (label_zero.calls k _ _ _ true _ HOS.out HCS.out HZ.out).mono ?_; rintro e w4 ⟨rfl, ⟨nz, rfl⟩⟩)
  refine (changes_at _ _ _ (bytesOf a0) _ _ _ out _ _ sl ca cb _ HBL.out (by rw [HOUT.out]; exact HBL.out) (Kd.C_drewN HW3.out _) HCP.out (by rw [HOUT.out]; exact Kd.C_drewN HW3.out _) HCP.out (Kd.C_drewN HOL3.out _) HCL.out HCH.out).mono ?_
  rintro e w5 ⟨rfl, hb⟩
  have HO5 := Aside0.mk (show Kd.C (Kd.int .u8) w5 (some ⟨gw, 0, none⟩) a0.size out by rw [HOUT.out]; exact Kd.C_below (Kd.C_drewN HW3.out nz) hb)
  have HOC := Aside0.mk HCP.out
  have HON := hid (show out.length = a0.size by rw [HOUT.out]; exact HBL.out)
  have HB5 := Aside0.mk ((pw_below_drewN HB3.out nz).trans (hb.mono (by simpa [World.drewN] using HB3.out.size)))
  clear hb
  go_wp2_with (fail)
  refine (syndromes_at k _ _ _ _ a1 s2 _ HON.out HO5.out HOC.out HS2.out).mono ?_
  rintro e w9 ⟨v2, rfl, ho, hb⟩
  obtain ⟨A9, c9, e9⟩ := Kd.R_slice ho
  subst e9
  have HO9 := Aside0.mk (Kd.R_reads' ho).2.2
  have HC9 := Aside0.mk (Kd.R_reads' ho).2.1
  have HX9 := Aside0.mk (Kd.C_below HO5.out hb)
  have HB9 := Aside0.mk (HB5.out.trans (hb.mono HB5.out.size))
  clear ho hb HO5 HB5
  go_wp2_with (fail)
  refine (label_zero.calls k _ _ _ true _ HO9.out HC9.out HZ2.out).mono ?_
  rintro e w4 ⟨rfl, ⟨ny, rfl⟩⟩
  obtain ⟨i0, hi0, _, hsz, _⟩ := info_parts Try.infoU8
  have hnn : out.length = a0.size := HON.out
  have hcut := cut_to (P := Try.prog) 58 5 .i64 Try.underlying58 hi0 (some ⟨gw, 0, none⟩) a0.size cp ((a0.size : Int) - a1) (by omega) (by omega) HOC.out
  have hr := Kd.C_take (m := ((a0.size : Int) - a1).toNat) (by rw [hnn]; exact Kd.C_drewN HX9.out ny) (by omega)
  obtain ⟨m1, hm1⟩ : ∃ m1 : Nat, m1 = ((a0.size : Int) - a1).toNat := ⟨_, rfl⟩
  rw [← hm1] at hcut hr
  have hlt : (out.take m1).length = m1 := by rw [List.length_take]; omega
  rw [hlt] at hr
  have hcv := Kd.C_string (P := Try.prog) (c := cp) Try.underlying58 Try.underlying5 Try.underlying9 hr
  have HM1 := hid (show m1 = ((out.length : Int) - a1).toNat by rw [hm1, hnn])
  have b1 : (0 : Int) ≤ (a0.size : Int) - a1 := by omega
  have b2 : (a0.size : Int) ≤ 100000 := by omega
  clear hr hlt hm1 hnn hi0 hsz
  go_wp2
  go_ret3
  exact ⟨by rw [← HM1.out]; rfl, pw_below_drewN HB9.out _⟩
set_option maxHeartbeats 4000000 in
set_option maxRecDepth 100000 in
theorem dec_mend_far (k : Nat) (a0 : ByteArray) (a1 : Int) (A2 : Option Addr) (c2 : Nat) (l2 : List Int) (sl : List Int) (w : World) (hr2 : Kd.C (Kd.int .i64) w A2 l2.length l2) (hc2 : l2.length ≤ c2) (hs : a0.size ≤ 100000) (st lc wh out : List Int) (ca cb : Int) (s2 : List Int) (hsp : label_spots.f l2 (a0.size : Int) = some (sl, true)) (hp : label_isParameters.f (a0.size : Int) a1 = some true) (ha0 : 0 ≤ a1) (ha1 : a1 ≤ 64) (hlen : (sl.length : Int) ≤ a1) (hst : label_syndromes.f k (bytesOf a0) a1 = some st) (hz : label_zero.f k st = some false) (hlc : label_locator.f k ((bytesOf a0).length : Int) sl = some lc) (hwh : label_find.f k st lc = some wh) (hrp : label_repair.f k (bytesOf a0) st wh = some out) (hch : label_changes.f (bytesOf a0) out sl = some (ca, cb)) (hb0 : 0 ≤ cb) (hb1 : cb ≤ 100000) (hol : (out.length : Int) ≤ 100000) (hop : 0 ≤ (out.length : Int) - a1) (hfar : 2 * cb + (sl.length : Int) > a1) :
    Calls Try.prog 20 #[.string a0, .int .i64 a1, .slice A2 l2.length c2] w fun e w' => e = .returned (.tuple #[.string ⟨#[]⟩, .int .i64 0, .int .i64 6]) ∧ Below w.heap.size w w' := by
  have HR2 := Aside0.mk hr2
  have HC2 := Aside0.mk hc2
  have HSZ := hid hs
  have hs1 : (a0.size : Int) ≤ 100000 := by omega
  clear hr2 hc2 hs
  have HSP := hid hsp
  have HP := hid hp
  have d1 : decide (a1 < (sl.length : Int)) = false := decide_eq_false (by omega)
  have HST := hid hst
  have HZ := hid hz
  have HLC := hid hlc
  have HWH := hid hwh
  have HRP := hid hrp
  have HCH := hid hch
  have d2 : decide (a1 < 2 * cb + (sl.length : Int)) = true := decide_eq_true (by omega)
  have hsl : (sl.length : Int) ≤ 64 := by omega
  have HBL := hid (bytesOf_length a0)
  have kb := fun W => print_bytes (P := Try.prog) 9 58 5 Try.underlying9 Try.underlying58 Try.underlying5 a0 W
  clear hsp hp hst hz hch hlen hfar hlc hwh hrp
  go_enter Try.func20, Try.ntmps20
  go_wp2_with (first | (go_at_call 39; refine (label_spots.calls A2 c2 l2 _ sl true _ HR2.out HC2.out HSP.out).mono ?_; rintro e w1 ⟨vl, rfl, ho, hb⟩; obtain ⟨AL, cL, eL⟩ := Kd.R_slice ho; subst eL; have HOL := Aside0.mk (Kd.R_reads' ho).2.2; have HCL := Aside0.mk (Kd.R_reads' ho).2.1; have HBB := Aside0.mk hb; clear ho hb) | (go_at_call 34; refine (label_isParameters.calls _ _ true _ HP.out).mono ?_; rintro e w2 ⟨rfl, ⟨nd, rfl⟩⟩))
  have hW : Kd.C (Kd.int .u8) (Lib.bytesWorld (w1.drewN nd) 5 a0) (some ⟨w1.heap.size, 0, none⟩) a0.size (bytesOf a0) := bytes_C (w1.drewN nd) a0 HSZ.out
  have hbw := bytes_below (pw_below_drewN (Below.refl w1.heap.size w1) nd) (by simp [World.drewN]) 5 a0
  have hcap := grownCap_ge (w1.drewN nd) a0.size 0 5
  obtain ⟨W, eW⟩ : ∃ W, W = Lib.bytesWorld (w1.drewN nd) 5 a0 := ⟨_, rfl⟩
  obtain ⟨cp, ecp⟩ : ∃ cp, cp = grownCap (w1.drewN nd) a0.size 0 5 := ⟨_, rfl⟩
  obtain ⟨gw, egw⟩ : ∃ gw, gw = w1.heap.size := ⟨_, rfl⟩
  (try simp only [← eW, ← ecp, ← egw])
  rw [← eW, ← egw] at hW
  rw [← eW] at hbw
  rw [← ecp] at hcap
  have HW := Aside0.mk hW
  have HCP := Aside0.mk hcap
  have HBB := Aside0.mk (HBB.out.trans (hbw.mono HBB.out.size))
  have HOL := Aside0.mk (Kd.C_below HOL.out hbw)
  clear hW hcap hbw eW ecp egw kb
  refine (syndromes_at k _ _ _ _ a1 st _ HBL.out HW.out HCP.out HST.out).mono ?_
  rintro e w3 ⟨vs, rfl, ho, hb⟩
  obtain ⟨AS, cS, eS⟩ := Kd.R_slice ho
  subst eS
  have HOS := Aside0.mk (Kd.R_reads' ho).2.2
  have HCS := Aside0.mk (Kd.R_reads' ho).2.1
  have HW3 := Aside0.mk (Kd.C_below HW.out hb)
  have HOL3 := Aside0.mk (Kd.C_below HOL.out hb)
  have HB3 := Aside0.mk (HBB.out.trans (hb.mono HBB.out.size))
  clear ho hb HW HOL HBB
  go_wp2_with (go_at_call 41; refine (label_zero.calls k _ _ _ false _ HOS.out HCS.out HZ.out).mono ?_; rintro e w4 ⟨rfl, ⟨nz, rfl⟩⟩)
  refine (label_locator.calls k _ _ _ sl lc _ (Kd.C_drewN HOL3.out _) HCL.out (by rw [← HBL.out]; exact HLC.out)).mono ?_
  rintro e w5 ⟨vc, rfl, ho, hb⟩
  obtain ⟨AC, cC, eC⟩ := Kd.R_slice ho
  subst eC
  have HOC0 := Aside0.mk (Kd.R_reads' ho).2.2
  have HCC := Aside0.mk (Kd.R_reads' ho).2.1
  have HS5 := Aside0.mk (Kd.C_below (Kd.C_drewN HOS.out nz) hb)
  have HW5 := Aside0.mk (Kd.C_below (Kd.C_drewN HW3.out nz) hb)
  have HOL5 := Aside0.mk (Kd.C_below (Kd.C_drewN HOL3.out nz) hb)
  have HB5 := Aside0.mk ((pw_below_drewN HB3.out nz).trans (hb.mono (by simpa [World.drewN] using HB3.out.size)))
  clear ho hb HW3 HOL3 HB3 HOS
  go_wp2_with (go_at_call 43; refine (label_find.calls k _ _ st _ _ lc wh _ HS5.out HCS.out HOC0.out HCC.out HWH.out).mono ?_; rintro e w6 ⟨vf, rfl, ho, hb⟩; obtain ⟨AF, cF, eF⟩ := Kd.R_slice ho; subst eF; have HOF := Aside0.mk (Kd.R_reads' ho).2.2; have HCF := Aside0.mk (Kd.R_reads' ho).2.1; have HS6 := Aside0.mk (Kd.C_below HS5.out hb); have HW6 := Aside0.mk (Kd.C_below HW5.out hb); have HOL6 := Aside0.mk (Kd.C_below HOL5.out hb); have HB6 := Aside0.mk (HB5.out.trans (hb.mono HB5.out.size)); clear ho hb HS5 HW5 HOL5 HB5 HOC0)
  refine (repair_at k _ _ _ (bytesOf a0) _ _ st _ _ wh out _ HBL.out HW6.out HCP.out HS6.out HCS.out HOF.out HCF.out HRP.out).mono ?_
  rintro e w7 ⟨vr, rfl, ho, hb⟩
  obtain ⟨AR, cR, eR⟩ := Kd.R_slice ho
  subst eR
  have HOR := Aside0.mk (Kd.R_reads' ho).2.2
  have HOC := Aside0.mk (Kd.R_reads' ho).2.1
  have HW7 := Aside0.mk (Kd.C_below HW6.out hb)
  have HOL7 := Aside0.mk (Kd.C_below HOL6.out hb)
  have HB7 := Aside0.mk (HB6.out.trans (hb.mono HB6.out.size))
  clear ho hb HW6 HOL6 HB6 HS6 HOF
  go_wp2_with (fail)
  refine (changes_at _ _ _ (bytesOf a0) _ _ _ out _ _ sl ca cb _ HBL.out rfl HW7.out HCP.out HOR.out HOC.out HOL7.out HCL.out HCH.out).mono ?_
  rintro e w8 ⟨rfl, hb⟩
  have HO5 := Aside0.mk (Kd.C_below HOR.out hb)
  have HB5 := Aside0.mk (HB7.out.trans (hb.mono HB7.out.size))
  clear hb HB7 HOR
  go_wp2
  go_ret3
  exact ⟨rfl, HB5.out⟩
set_option maxHeartbeats 4000000 in
set_option maxRecDepth 100000 in
theorem dec_mend_bad (k : Nat) (a0 : ByteArray) (a1 : Int) (A2 : Option Addr) (c2 : Nat) (l2 : List Int) (sl : List Int) (w : World) (hr2 : Kd.C (Kd.int .i64) w A2 l2.length l2) (hc2 : l2.length ≤ c2) (hs : a0.size ≤ 100000) (st lc wh out : List Int) (ca cb : Int) (s2 : List Int) (hsp : label_spots.f l2 (a0.size : Int) = some (sl, true)) (hp : label_isParameters.f (a0.size : Int) a1 = some true) (ha0 : 0 ≤ a1) (ha1 : a1 ≤ 64) (hlen : (sl.length : Int) ≤ a1) (hst : label_syndromes.f k (bytesOf a0) a1 = some st) (hz : label_zero.f k st = some false) (hlc : label_locator.f k ((bytesOf a0).length : Int) sl = some lc) (hwh : label_find.f k st lc = some wh) (hrp : label_repair.f k (bytesOf a0) st wh = some out) (hch : label_changes.f (bytesOf a0) out sl = some (ca, cb)) (hb0 : 0 ≤ cb) (hb1 : cb ≤ 100000) (hol : (out.length : Int) ≤ 100000) (hop : 0 ≤ (out.length : Int) - a1) (hfar : ¬ 2 * cb + (sl.length : Int) > a1) (hs2 : label_syndromes.f k out a1 = some s2) (hz2 : label_zero.f k s2 = some false) :
    Calls Try.prog 20 #[.string a0, .int .i64 a1, .slice A2 l2.length c2] w fun e w' => e = .returned (.tuple #[.string ⟨#[]⟩, .int .i64 0, .int .i64 6]) ∧ Below w.heap.size w w' := by
  have HR2 := Aside0.mk hr2
  have HC2 := Aside0.mk hc2
  have HSZ := hid hs
  have hs1 : (a0.size : Int) ≤ 100000 := by omega
  clear hr2 hc2 hs
  have HSP := hid hsp
  have HP := hid hp
  have d1 : decide (a1 < (sl.length : Int)) = false := decide_eq_false (by omega)
  have HST := hid hst
  have HZ := hid hz
  have HLC := hid hlc
  have HWH := hid hwh
  have HRP := hid hrp
  have HCH := hid hch
  have d2 : decide (a1 < 2 * cb + (sl.length : Int)) = false := decide_eq_false (by omega)
  have HS2 := hid hs2
  have HZ2 := hid hz2
  clear hs2 hz2
  have hsl : (sl.length : Int) ≤ 64 := by omega
  have HBL := hid (bytesOf_length a0)
  have kb := fun W => print_bytes (P := Try.prog) 9 58 5 Try.underlying9 Try.underlying58 Try.underlying5 a0 W
  clear hsp hp hst hz hch hlen hfar hlc hwh hrp
  go_enter Try.func20, Try.ntmps20
  go_wp2_with (first | (go_at_call 39; refine (label_spots.calls A2 c2 l2 _ sl true _ HR2.out HC2.out HSP.out).mono ?_; rintro e w1 ⟨vl, rfl, ho, hb⟩; obtain ⟨AL, cL, eL⟩ := Kd.R_slice ho; subst eL; have HOL := Aside0.mk (Kd.R_reads' ho).2.2; have HCL := Aside0.mk (Kd.R_reads' ho).2.1; have HBB := Aside0.mk hb; clear ho hb) | (go_at_call 34; refine (label_isParameters.calls _ _ true _ HP.out).mono ?_; rintro e w2 ⟨rfl, ⟨nd, rfl⟩⟩))
  have hW : Kd.C (Kd.int .u8) (Lib.bytesWorld (w1.drewN nd) 5 a0) (some ⟨w1.heap.size, 0, none⟩) a0.size (bytesOf a0) := bytes_C (w1.drewN nd) a0 HSZ.out
  have hbw := bytes_below (pw_below_drewN (Below.refl w1.heap.size w1) nd) (by simp [World.drewN]) 5 a0
  have hcap := grownCap_ge (w1.drewN nd) a0.size 0 5
  obtain ⟨W, eW⟩ : ∃ W, W = Lib.bytesWorld (w1.drewN nd) 5 a0 := ⟨_, rfl⟩
  obtain ⟨cp, ecp⟩ : ∃ cp, cp = grownCap (w1.drewN nd) a0.size 0 5 := ⟨_, rfl⟩
  obtain ⟨gw, egw⟩ : ∃ gw, gw = w1.heap.size := ⟨_, rfl⟩
  (try simp only [← eW, ← ecp, ← egw])
  rw [← eW, ← egw] at hW
  rw [← eW] at hbw
  rw [← ecp] at hcap
  have HW := Aside0.mk hW
  have HCP := Aside0.mk hcap
  have HBB := Aside0.mk (HBB.out.trans (hbw.mono HBB.out.size))
  have HOL := Aside0.mk (Kd.C_below HOL.out hbw)
  clear hW hcap hbw eW ecp egw kb
  refine (syndromes_at k _ _ _ _ a1 st _ HBL.out HW.out HCP.out HST.out).mono ?_
  rintro e w3 ⟨vs, rfl, ho, hb⟩
  obtain ⟨AS, cS, eS⟩ := Kd.R_slice ho
  subst eS
  have HOS := Aside0.mk (Kd.R_reads' ho).2.2
  have HCS := Aside0.mk (Kd.R_reads' ho).2.1
  have HW3 := Aside0.mk (Kd.C_below HW.out hb)
  have HOL3 := Aside0.mk (Kd.C_below HOL.out hb)
  have HB3 := Aside0.mk (HBB.out.trans (hb.mono HBB.out.size))
  clear ho hb HW HOL HBB
  go_wp2_with (go_at_call 41; refine (label_zero.calls k _ _ _ false _ HOS.out HCS.out HZ.out).mono ?_; rintro e w4 ⟨rfl, ⟨nz, rfl⟩⟩)
  refine (label_locator.calls k _ _ _ sl lc _ (Kd.C_drewN HOL3.out _) HCL.out (by rw [← HBL.out]; exact HLC.out)).mono ?_
  rintro e w5 ⟨vc, rfl, ho, hb⟩
  obtain ⟨AC, cC, eC⟩ := Kd.R_slice ho
  subst eC
  have HOC0 := Aside0.mk (Kd.R_reads' ho).2.2
  have HCC := Aside0.mk (Kd.R_reads' ho).2.1
  have HS5 := Aside0.mk (Kd.C_below (Kd.C_drewN HOS.out nz) hb)
  have HW5 := Aside0.mk (Kd.C_below (Kd.C_drewN HW3.out nz) hb)
  have HOL5 := Aside0.mk (Kd.C_below (Kd.C_drewN HOL3.out nz) hb)
  have HB5 := Aside0.mk ((pw_below_drewN HB3.out nz).trans (hb.mono (by simpa [World.drewN] using HB3.out.size)))
  clear ho hb HW3 HOL3 HB3 HOS
  go_wp2_with (go_at_call 43; refine (label_find.calls k _ _ st _ _ lc wh _ HS5.out HCS.out HOC0.out HCC.out HWH.out).mono ?_; rintro e w6 ⟨vf, rfl, ho, hb⟩; obtain ⟨AF, cF, eF⟩ := Kd.R_slice ho; subst eF; have HOF := Aside0.mk (Kd.R_reads' ho).2.2; have HCF := Aside0.mk (Kd.R_reads' ho).2.1; have HS6 := Aside0.mk (Kd.C_below HS5.out hb); have HW6 := Aside0.mk (Kd.C_below HW5.out hb); have HOL6 := Aside0.mk (Kd.C_below HOL5.out hb); have HB6 := Aside0.mk (HB5.out.trans (hb.mono HB5.out.size)); clear ho hb HS5 HW5 HOL5 HB5 HOC0)
  refine (repair_at k _ _ _ (bytesOf a0) _ _ st _ _ wh out _ HBL.out HW6.out HCP.out HS6.out HCS.out HOF.out HCF.out HRP.out).mono ?_
  rintro e w7 ⟨vr, rfl, ho, hb⟩
  obtain ⟨AR, cR, eR⟩ := Kd.R_slice ho
  subst eR
  have HOR := Aside0.mk (Kd.R_reads' ho).2.2
  have HOC := Aside0.mk (Kd.R_reads' ho).2.1
  have HW7 := Aside0.mk (Kd.C_below HW6.out hb)
  have HOL7 := Aside0.mk (Kd.C_below HOL6.out hb)
  have HB7 := Aside0.mk (HB6.out.trans (hb.mono HB6.out.size))
  clear ho hb HW6 HOL6 HB6 HS6 HOF
  go_wp2_with (fail)
  refine (changes_at _ _ _ (bytesOf a0) _ _ _ out _ _ sl ca cb _ HBL.out rfl HW7.out HCP.out HOR.out HOC.out HOL7.out HCL.out HCH.out).mono ?_
  rintro e w8 ⟨rfl, hb⟩
  have HO5 := Aside0.mk (Kd.C_below HOR.out hb)
  have HB5 := Aside0.mk (HB7.out.trans (hb.mono HB7.out.size))
  clear hb HB7 HOR
  go_wp2_with (fail)
  refine (syndromes_at k _ _ _ _ a1 s2 _ rfl HO5.out HOC.out HS2.out).mono ?_
  rintro e w9 ⟨v2, rfl, ho, hb⟩
  obtain ⟨A9, c9, e9⟩ := Kd.R_slice ho
  subst e9
  have HO9 := Aside0.mk (Kd.R_reads' ho).2.2
  have HC9 := Aside0.mk (Kd.R_reads' ho).2.1
  have HX9 := Aside0.mk (Kd.C_below HO5.out hb)
  have HB9 := Aside0.mk (HB5.out.trans (hb.mono HB5.out.size))
  clear ho hb HO5 HB5
  go_wp2_with (go_at_call 41; refine (label_zero.calls k _ _ _ false _ HO9.out HC9.out HZ2.out).mono ?_; rintro e w4 ⟨rfl, ⟨ny, rfl⟩⟩)
  go_ret3
  exact ⟨rfl, pw_below_drewN HB9.out _⟩
set_option maxHeartbeats 4000000 in
set_option maxRecDepth 100000 in
theorem dec_mend_ok (k : Nat) (a0 : ByteArray) (a1 : Int) (A2 : Option Addr) (c2 : Nat) (l2 : List Int) (sl : List Int) (w : World) (hr2 : Kd.C (Kd.int .i64) w A2 l2.length l2) (hc2 : l2.length ≤ c2) (hs : a0.size ≤ 100000) (st lc wh out : List Int) (ca cb : Int) (s2 : List Int) (hsp : label_spots.f l2 (a0.size : Int) = some (sl, true)) (hp : label_isParameters.f (a0.size : Int) a1 = some true) (ha0 : 0 ≤ a1) (ha1 : a1 ≤ 64) (hlen : (sl.length : Int) ≤ a1) (hst : label_syndromes.f k (bytesOf a0) a1 = some st) (hz : label_zero.f k st = some false) (hlc : label_locator.f k ((bytesOf a0).length : Int) sl = some lc) (hwh : label_find.f k st lc = some wh) (hrp : label_repair.f k (bytesOf a0) st wh = some out) (hch : label_changes.f (bytesOf a0) out sl = some (ca, cb)) (hb0 : 0 ≤ cb) (hb1 : cb ≤ 100000) (hol : (out.length : Int) ≤ 100000) (hop : 0 ≤ (out.length : Int) - a1) (hfar : ¬ 2 * cb + (sl.length : Int) > a1) (hs2 : label_syndromes.f k out a1 = some s2) (hz2 : label_zero.f k s2 = some true) :
    Calls Try.prog 20 #[.string a0, .int .i64 a1, .slice A2 l2.length c2] w fun e w' => e = .returned (.tuple #[.string (strOfNums (out.take ((out.length : Int) - a1).toNat)), .int .i64 ca, .int .i64 0]) ∧ Below w.heap.size w w' := by
  have HR2 := Aside0.mk hr2
  have HC2 := Aside0.mk hc2
  have HSZ := hid hs
  have hs1 : (a0.size : Int) ≤ 100000 := by omega
  clear hr2 hc2 hs
  have HSP := hid hsp
  have HP := hid hp
  have d1 : decide (a1 < (sl.length : Int)) = false := decide_eq_false (by omega)
  have HST := hid hst
  have HZ := hid hz
  have HLC := hid hlc
  have HWH := hid hwh
  have HRP := hid hrp
  have HCH := hid hch
  have d2 : decide (a1 < 2 * cb + (sl.length : Int)) = false := decide_eq_false (by omega)
  have HS2 := hid hs2
  have HZ2 := hid hz2
  clear hs2 hz2
  have hsl : (sl.length : Int) ≤ 64 := by omega
  have HBL := hid (bytesOf_length a0)
  have kb := fun W => print_bytes (P := Try.prog) 9 58 5 Try.underlying9 Try.underlying58 Try.underlying5 a0 W
  clear hsp hp hst hz hch hlen hfar hlc hwh hrp
  go_enter Try.func20, Try.ntmps20
  go_wp2_with (first | (go_at_call 39; refine (label_spots.calls A2 c2 l2 _ sl true _ HR2.out HC2.out HSP.out).mono ?_; rintro e w1 ⟨vl, rfl, ho, hb⟩; obtain ⟨AL, cL, eL⟩ := Kd.R_slice ho; subst eL; have HOL := Aside0.mk (Kd.R_reads' ho).2.2; have HCL := Aside0.mk (Kd.R_reads' ho).2.1; have HBB := Aside0.mk hb; clear ho hb) | (go_at_call 34; refine (label_isParameters.calls _ _ true _ HP.out).mono ?_; rintro e w2 ⟨rfl, ⟨nd, rfl⟩⟩))
  have hW : Kd.C (Kd.int .u8) (Lib.bytesWorld (w1.drewN nd) 5 a0) (some ⟨w1.heap.size, 0, none⟩) a0.size (bytesOf a0) := bytes_C (w1.drewN nd) a0 HSZ.out
  have hbw := bytes_below (pw_below_drewN (Below.refl w1.heap.size w1) nd) (by simp [World.drewN]) 5 a0
  have hcap := grownCap_ge (w1.drewN nd) a0.size 0 5
  obtain ⟨W, eW⟩ : ∃ W, W = Lib.bytesWorld (w1.drewN nd) 5 a0 := ⟨_, rfl⟩
  obtain ⟨cp, ecp⟩ : ∃ cp, cp = grownCap (w1.drewN nd) a0.size 0 5 := ⟨_, rfl⟩
  obtain ⟨gw, egw⟩ : ∃ gw, gw = w1.heap.size := ⟨_, rfl⟩
  (try simp only [← eW, ← ecp, ← egw])
  rw [← eW, ← egw] at hW
  rw [← eW] at hbw
  rw [← ecp] at hcap
  have HW := Aside0.mk hW
  have HCP := Aside0.mk hcap
  have HBB := Aside0.mk (HBB.out.trans (hbw.mono HBB.out.size))
  have HOL := Aside0.mk (Kd.C_below HOL.out hbw)
  clear hW hcap hbw eW ecp egw kb
  refine (syndromes_at k _ _ _ _ a1 st _ HBL.out HW.out HCP.out HST.out).mono ?_
  rintro e w3 ⟨vs, rfl, ho, hb⟩
  obtain ⟨AS, cS, eS⟩ := Kd.R_slice ho
  subst eS
  have HOS := Aside0.mk (Kd.R_reads' ho).2.2
  have HCS := Aside0.mk (Kd.R_reads' ho).2.1
  have HW3 := Aside0.mk (Kd.C_below HW.out hb)
  have HOL3 := Aside0.mk (Kd.C_below HOL.out hb)
  have HB3 := Aside0.mk (HBB.out.trans (hb.mono HBB.out.size))
  clear ho hb HW HOL HBB
  go_wp2_with (go_at_call 41; refine (label_zero.calls k _ _ _ false _ HOS.out HCS.out HZ.out).mono ?_; rintro e w4 ⟨rfl, ⟨nz, rfl⟩⟩)
  refine (label_locator.calls k _ _ _ sl lc _ (Kd.C_drewN HOL3.out _) HCL.out (by rw [← HBL.out]; exact HLC.out)).mono ?_
  rintro e w5 ⟨vc, rfl, ho, hb⟩
  obtain ⟨AC, cC, eC⟩ := Kd.R_slice ho
  subst eC
  have HOC0 := Aside0.mk (Kd.R_reads' ho).2.2
  have HCC := Aside0.mk (Kd.R_reads' ho).2.1
  have HS5 := Aside0.mk (Kd.C_below (Kd.C_drewN HOS.out nz) hb)
  have HW5 := Aside0.mk (Kd.C_below (Kd.C_drewN HW3.out nz) hb)
  have HOL5 := Aside0.mk (Kd.C_below (Kd.C_drewN HOL3.out nz) hb)
  have HB5 := Aside0.mk ((pw_below_drewN HB3.out nz).trans (hb.mono (by simpa [World.drewN] using HB3.out.size)))
  clear ho hb HW3 HOL3 HB3 HOS
  go_wp2_with (go_at_call 43; refine (label_find.calls k _ _ st _ _ lc wh _ HS5.out HCS.out HOC0.out HCC.out HWH.out).mono ?_; rintro e w6 ⟨vf, rfl, ho, hb⟩; obtain ⟨AF, cF, eF⟩ := Kd.R_slice ho; subst eF; have HOF := Aside0.mk (Kd.R_reads' ho).2.2; have HCF := Aside0.mk (Kd.R_reads' ho).2.1; have HS6 := Aside0.mk (Kd.C_below HS5.out hb); have HW6 := Aside0.mk (Kd.C_below HW5.out hb); have HOL6 := Aside0.mk (Kd.C_below HOL5.out hb); have HB6 := Aside0.mk (HB5.out.trans (hb.mono HB5.out.size)); clear ho hb HS5 HW5 HOL5 HB5 HOC0)
  refine (repair_at k _ _ _ (bytesOf a0) _ _ st _ _ wh out _ HBL.out HW6.out HCP.out HS6.out HCS.out HOF.out HCF.out HRP.out).mono ?_
  rintro e w7 ⟨vr, rfl, ho, hb⟩
  obtain ⟨AR, cR, eR⟩ := Kd.R_slice ho
  subst eR
  have HOR := Aside0.mk (Kd.R_reads' ho).2.2
  have HOC := Aside0.mk (Kd.R_reads' ho).2.1
  have HW7 := Aside0.mk (Kd.C_below HW6.out hb)
  have HOL7 := Aside0.mk (Kd.C_below HOL6.out hb)
  have HB7 := Aside0.mk (HB6.out.trans (hb.mono HB6.out.size))
  clear ho hb HW6 HOL6 HB6 HS6 HOF
  go_wp2_with (fail)
  refine (changes_at _ _ _ (bytesOf a0) _ _ _ out _ _ sl ca cb _ HBL.out rfl HW7.out HCP.out HOR.out HOC.out HOL7.out HCL.out HCH.out).mono ?_
  rintro e w8 ⟨rfl, hb⟩
  have HO5 := Aside0.mk (Kd.C_below HOR.out hb)
  have HB5 := Aside0.mk (HB7.out.trans (hb.mono HB7.out.size))
  clear hb HB7 HOR
  go_wp2_with (fail)
  refine (syndromes_at k _ _ _ _ a1 s2 _ rfl HO5.out HOC.out HS2.out).mono ?_
  rintro e w9 ⟨v2, rfl, ho, hb⟩
  obtain ⟨A9, c9, e9⟩ := Kd.R_slice ho
  subst e9
  have HO9 := Aside0.mk (Kd.R_reads' ho).2.2
  have HC9 := Aside0.mk (Kd.R_reads' ho).2.1
  have HX9 := Aside0.mk (Kd.C_below HO5.out hb)
  have HB9 := Aside0.mk (HB5.out.trans (hb.mono HB5.out.size))
  clear ho hb HO5 HB5
  go_wp2_with (fail)
  refine (label_zero.calls k _ _ _ true _ HO9.out HC9.out HZ2.out).mono ?_
  rintro e w4 ⟨rfl, ⟨ny, rfl⟩⟩
  obtain ⟨i0, hi0, _, hsz, _⟩ := info_parts Try.infoU8
  have hnn : out.length = out.length := rfl
  have hcut := cut_to (P := Try.prog) 58 5 .i64 Try.underlying58 hi0 AR out.length cR ((out.length : Int) - a1) (by omega) (by omega) HOC.out
  have hr := Kd.C_take (m := ((out.length : Int) - a1).toNat) (by rw [hnn]; exact Kd.C_drewN HX9.out ny) (by omega)
  obtain ⟨m1, hm1⟩ : ∃ m1 : Nat, m1 = ((out.length : Int) - a1).toNat := ⟨_, rfl⟩
  rw [← hm1] at hcut hr
  have hlt : (out.take m1).length = m1 := by rw [List.length_take]; omega
  rw [hlt] at hr
  have hcv := Kd.C_string (P := Try.prog) (c := cR) Try.underlying58 Try.underlying5 Try.underlying9 hr
  have HM1 := hid (show m1 = ((out.length : Int) - a1).toNat by rw [hm1, hnn])
  have b1 : (0 : Int) ≤ (out.length : Int) - a1 := by omega
  have b2 : (out.length : Int) ≤ 100000 := by omega
  clear hr hlt hm1 hnn hi0 hsz
  go_wp2
  go_ret3
  exact ⟨by rw [← HM1.out]; rfl, pw_below_drewN HB9.out _⟩
theorem label_Decode.calls (k : Nat) (a0 : ByteArray) (a1 : Int) (A2 : Option Addr) (c2 : Nat) (l2 : List Int) (r1 : ByteArray) (r2 r3 : Int) (w : World) (hr2 : Kd.C (Kd.int .i64) w A2 l2.length l2) (hc2 : l2.length ≤ c2) (h : label_Decode.f k a0 a1 l2 = some (r1, r2, r3)) :
    Calls Try.prog 20 #[.string a0, .int .i64 a1, .slice A2 l2.length c2] w fun e w' => e = .returned (.tuple #[.string r1, .int .i64 r2, .int .i64 r3]) ∧ Below w.heap.size w w' := by
  unfold label_Decode.f at h
  by_cases hs : a0.size ≤ 100000
  · rw [if_pos hs] at h
    obtain ⟨⟨sl, bs⟩, hsp, h⟩ := Option.bind_eq_some_iff.mp h
    obtain ⟨t, hp, h⟩ := Option.bind_eq_some_iff.mp h
    simp only at h
    cases t with
    | false =>
      rw [if_pos rfl] at h
      cases h
      exact dec_par k a0 a1 A2 c2 l2 sl w hr2 hc2 hs bs hsp hp
    | true =>
      rw [if_neg (by simp)] at h
      cases bs with
      | false =>
        rw [if_pos rfl] at h
        cases h
        exact dec_spot k a0 a1 A2 c2 l2 sl w hr2 hc2 hs true hsp hp
      | true =>
        rw [if_neg (by simp)] at h
        by_cases ha : 0 ≤ a1 ∧ a1 ≤ 64
        · rw [if_pos ha] at h
          by_cases hlen : (sl.length : Int) > a1
          · rw [if_pos hlen] at h
            cases h
            exact dec_many k a0 a1 A2 c2 l2 sl w hr2 hc2 hs hsp hp hlen
          · rw [if_neg hlen] at h
            obtain ⟨⟨z, out⟩, ho, h⟩ := Option.bind_eq_some_iff.mp h
            simp only at h
            unfold decEnd at h
            obtain ⟨⟨ca, cb⟩, hch, h⟩ := Option.bind_eq_some_iff.mp h
            simp only at h
            by_cases hc : 0 ≤ cb ∧ cb ≤ 100000 ∧ (sl.length : Int) ≤ 255 ∧ 0 ≤ (out.length : Int) - a1 ∧ (out.length : Int) ≤ 100000
            · rw [if_pos hc] at h
              obtain ⟨hc1, hc2', hc3, hc4, hc5⟩ := hc
              unfold decOut at ho
              obtain ⟨st, hst, ho⟩ := Option.bind_eq_some_iff.mp ho
              obtain ⟨z1, hz, ho⟩ := Option.bind_eq_some_iff.mp ho
              cases z1 with
              | true =>
                rw [if_pos rfl] at ho
                cases ho
                by_cases hf : 2 * cb + (sl.length : Int) > a1
                · rw [if_pos hf] at h
                  cases h
                  exact dec_clean_far k a0 a1 A2 c2 l2 sl w hr2 hc2 hs st [] [] _ _ cb [] hsp hp ha.1 ha.2 (by omega) hst hz rfl hch hc1 hc2' hc5 hc4 hf
                · rw [if_neg hf] at h
                  obtain ⟨s2, hs2, h⟩ := Option.bind_eq_some_iff.mp h
                  obtain ⟨z2, hz2, h⟩ := Option.bind_eq_some_iff.mp h
                  cases z2 with
                  | true =>
                    rw [if_pos rfl] at h
                    cases h
                    exact dec_clean_ok k a0 a1 A2 c2 l2 sl w hr2 hc2 hs st [] [] _ _ cb s2 hsp hp ha.1 ha.2 (by omega) hst hz rfl hch hc1 hc2' hc5 hc4 hf hs2 hz2
                  | false =>
                    rw [if_neg (by simp)] at h
                    cases h
                    exact dec_clean_bad k a0 a1 A2 c2 l2 sl w hr2 hc2 hs st [] [] _ _ cb s2 hsp hp ha.1 ha.2 (by omega) hst hz rfl hch hc1 hc2' hc5 hc4 hf hs2 hz2
              | false =>
                rw [if_neg (by simp)] at ho
                obtain ⟨lc, hlc, ho⟩ := Option.bind_eq_some_iff.mp ho
                obtain ⟨wh, hwh, ho⟩ := Option.bind_eq_some_iff.mp ho
                obtain ⟨rp, hrp, ho⟩ := Option.bind_eq_some_iff.mp ho
                cases ho
                by_cases hf : 2 * cb + (sl.length : Int) > a1
                · rw [if_pos hf] at h
                  cases h
                  exact dec_mend_far k a0 a1 A2 c2 l2 sl w hr2 hc2 hs st lc wh _ _ cb [] hsp hp ha.1 ha.2 (by omega) hst hz hlc hwh hrp hch hc1 hc2' hc5 hc4 hf
                · rw [if_neg hf] at h
                  obtain ⟨s2, hs2, h⟩ := Option.bind_eq_some_iff.mp h
                  obtain ⟨z2, hz2, h⟩ := Option.bind_eq_some_iff.mp h
                  cases z2 with
                  | true =>
                    rw [if_pos rfl] at h
                    cases h
                    exact dec_mend_ok k a0 a1 A2 c2 l2 sl w hr2 hc2 hs st lc wh _ _ cb s2 hsp hp ha.1 ha.2 (by omega) hst hz hlc hwh hrp hch hc1 hc2' hc5 hc4 hf hs2 hz2
                  | false =>
                    rw [if_neg (by simp)] at h
                    cases h
                    exact dec_mend_bad k a0 a1 A2 c2 l2 sl w hr2 hc2 hs st lc wh _ _ cb s2 hsp hp ha.1 ha.2 (by omega) hst hz hlc hwh hrp hch hc1 hc2' hc5 hc4 hf hs2 hz2
            · rw [if_neg hc] at h; exact absurd h (by simp)
        · rw [if_neg ha] at h; exact absurd h (by simp)
  · rw [if_neg hs] at h; exact absurd h (by simp)

/-! ### label_Mul: function 28 -/
def label_Mul.f (a0 : Int) (a1 : Int) : Option (Int) := (label_mul.f a0 a1).bind fun t192 => (some t192)
set_option maxHeartbeats 8000000 in
set_option maxRecDepth 100000 in
theorem label_Mul.calls (a0 : Int) (a1 : Int) (r : Int) (w : World) (h : label_Mul.f a0 a1 = some r) :
    Calls Try.prog 28 #[.int .u8 a0, .int .u8 a1] w fun e w' => e = .returned (.int .u8 r) ∧ Below w.heap.size w w' := by
  have HB := Aside0.mk (Below.refl w.heap.size w)
  have H : ((label_mul.f a0 a1).bind fun t192 => (some t192)) = some r := h
  clear h
  replace H := Option.bind_eq_some_iff.mp H
  obtain ⟨t192, A30, H⟩ := H
  replace H : (some t192) = some r := H
  have A3 := Aside0.mk A30; (try simp only [Int.toNat_natCast] at A3)
  clear A30
  obtain rfl := Option.some.inj H
  go_enter Try.func28, Try.ntmps28
  go_wp2_with (first | ((with_reducible refine gate_callee (f := 36) rfl ?_); refine goesL_ (some 7) rfl rfl Try.func36 (by kernel_rfl) rfl #[.int .u8 a0, .int .u8 a1] rfl (by (try simp only [List.map_toArray, List.map_cons, List.map_nil]); first | done | rfl | (simp only [List.length_drop, List.length_take]; rfl)) ?_; (with_reducible refine (label_mul.calls a0 a1 t192 _ A3.out).mono ?_); rintro e w4 ⟨rfl, hb⟩; refine ⟨_, rfl, ?_⟩; have n0_ := Aside0.mk (below_step (by repeat (first | (with_reducible first | exact HB.out | apply below_alloc | apply pw_below_drewN | apply below_drew1) | exact HB.out)) hb); clear HB; have HB := n0_; clear n0_; (try clear hb); (try clear hb2); (try clear hk); (try clear hi)))
  go_ret
  exact ⟨by first | rfl | (simp [errW_none, errW_some] <;> rfl) | (simp [*, errW_none, errW_some] <;> rfl), by repeat (first | (with_reducible first | exact HB.out | apply below_alloc | apply pw_below_drewN | apply below_drew1) | exact HB.out)⟩

end Go.Proofs.Ytdgjanjoiabgfaa.Q
