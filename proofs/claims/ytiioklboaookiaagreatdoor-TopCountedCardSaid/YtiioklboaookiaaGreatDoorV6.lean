/- A part of the proof: what the law's row needs. -/
import Derived.Test.YtiioklboaookiaaGreatDoorV5
namespace Go.Proofs.YtiioklboaookiaaGreatDoor.Q
open Go.RowKit Go.Proofs.YtiioklboaookiaaGreatDoorW.PrintWords Go.Proofs.YtiioklboaookiaaGreatDoorW.PrintLast Go.Proofs.YtiioklboaookiaaGreatDoor.Hand Go.Proofs.YtiioklboaookiaaGreatDoorW.PrintMore
attribute [local go_sem] max2_int min2_int max_two min_two max_three min_three max_four min_four
set_option linter.unusedVariables false
set_option linter.unusedSimpArgs false
def label_locator.l0 : Nat → Int → List Int → List Int → Int → Int → Option (List Int)
 | 0, _, _, _, _, _ => none
 | k + 1, x0, x5, x9, x10, x11 => if x11 < x10 then (if 0 ≤ x11 then (if x11 < (x9.length : Int) then ((label_exp.f (wrap64 ((wrap64 (x0 - 1)) - (rd x9 x11)))).bind fun t214 => ((label_times.f x5 (([1, t214] : List Int)) (wrap64 ((x5.length : Int) + 1))).bind fun t218 => (label_locator.l0 k x0 t218 x9 x10 (wrap64 (x11 + 1))))) else (none)) else (none)) else (some x5)
def label_locator.f (k : Nat) (a0 : Int) (l1 : List Int) : Option (List Int) := label_locator.l0 k a0 (([1] : List Int)) l1 (l1.length : Int) 0
theorem label_locator.mono_l : ∀ k, (∀ y0 y1 y2 y3 y4, LeO (label_locator.l0 k y0 y1 y2 y3 y4) (label_locator.l0 (k + 1) y0 y1 y2 y3 y4))
 | 0 => fun _ _ _ _ _ r h => by simp [label_locator.l0] at h
 | k + 1 => by
  have ih0 := label_locator.mono_l k
  ·intro y0 y1 y2 y3 y4
   unfold label_locator.l0
   repeat' first
   | (with_reducible exact ih0 _ _ _ _ _)
   | (with_reducible exact LeO.refl _)
   | (with_reducible exact LeO.none _)
   | (with_reducible refine LeO.ite ?_ ?_)
   | (with_reducible refine LeO.bind ?_ (fun _ => ?_))
   | exact ih0 _ _ _ _ _
   | exact LeO.none _
   | refine LeO.ite ?_ ?_
   | refine LeO.bind ?_ (fun _ => ?_)
theorem label_locator.mono : ∀ a0 a1 k, LeO (label_locator.f k a0 a1) (label_locator.f (k + 1) a0 a1) := by
 intro a0 a1 k
 have ih0 := label_locator.mono_l k
 unfold label_locator.f
 repeat' first
   | (with_reducible exact ih0 _ _ _ _ _)
   | (with_reducible exact LeO.refl _)
   | (with_reducible exact LeO.none _)
   | (with_reducible refine LeO.ite ?_ ?_)
   | (with_reducible refine LeO.bind ?_ (fun _ => ?_))
   | exact ih0 _ _ _ _ _
   | exact LeO.none _
   | refine LeO.ite ?_ ?_
   | refine LeO.bind ?_ (fun _ => ?_)
set_option maxHeartbeats 8000000 in
set_option maxRecDepth 100000 in
theorem label_locator.calls (k : Nat) (a0 : Int) (A1 : Option Addr) (c1 : Nat) (l1 : List Int) (r : List Int) (w : World) (hr1 : Kd.C (Kd.int .i64) w A1 l1.length l1) (hc1 : l1.length ≤ c1) (h : label_locator.f k a0 l1 = some r) :
  Calls Tryz.prog 60 #[.int .i64 a0, .slice A1 l1.length c1] w fun e w' => ∃ v0_ : Value, e = .returned (v0_) ∧ Kd.R (Kd.int .u8) 5 w' w.heap.size (fun _ => True) v0_ r ∧ Below w.heap.size w w' := by
 have HR1 := Aside0.mk hr1
 have HC1 := Aside0.mk hc1
 clear hr1 hc1
 have HB := Aside0.mk (Below.refl w.heap.size w)
 have H : (label_locator.l0 k a0 (([1] : List Int)) l1 (l1.length : Int) 0) = some r := h
 clear h
 obtain ⟨y210, hy210⟩ : ∃ y_ : List Int, y_ = (([1] : List Int)) := ⟨_, rfl⟩
 replace H : (label_locator.l0 k a0 y210 l1 (l1.length : Int) 0) = some r := by first | (rw [hy210]; with_reducible exact H) | (have H2_ := (Option.bind_some _ _).symm.trans H; rw [hy210]; with_reducible exact H2_) | (have H2_ := (Option.bind_some _ _).symm.trans H; with_reducible exact H2_) | with_reducible exact H | (rw [hy210]; exact H) | exact H
 have Ny210 := Aside0.mk hy210
 clear hy210
 have H' := Aside0.mk H
 clear H
 go_enter Tryz.func60, Tryz.ntmps60
 go_wp2_with (first | ((with_reducible refine gate_dst (N := 8) rfl ?_); refine Kd.R_lit (Kd.int .u8) _ 5 ?hg (N := 8) ?hd (xs := ([1] : List Int)) (inner := [.int .u8 1]) (ok := fun _ => True) (okp := fun _ => True) ?hr ?hp (fun _ hk => hk) trivial (Below.refl _ _) (Nat.le_refl _) (by simp) ?_; (case hd => rfl); (case hg => rfl); (case hr => first | (go_simp; done) | (go_simp; rfl)); (case hp => exact (Reps.one (show Kd.M (Kd.int .u8) _ _ _ 1 [.int .u8 1] from rfl) (Reps.none _ _))); intro v211 w3 ho4 hb hg_ hnew_; clear hg_ hnew_; (first | rw [← Ny210.out] at ho4 | (simp only [Int.reduceToNat] at ho4; rw [← Ny210.out] at ho4)); have n0_ := Aside0.mk (Kd.R_lower ho4 (below_size (by repeat (first | (with_reducible first | exact HB.out | apply below_alloc | apply pw_below_drewN | apply below_drew1) | exact HB.out)))); have n1_ := Aside0.mk (below_step (by repeat (first | (with_reducible first | exact HB.out | apply below_alloc | apply pw_below_drewN | apply below_drew1) | exact HB.out)) hb); clear HB; have HO212 := n0_; have HB := n1_; clear n0_ n1_; clear hb ho4))
 go_loopg [5, 11] k (fun kq v5 v11 w' => ∃ (x5_1 : List Int) (x11_1 : Int), v11 = .int .i64 x11_1 ∧ Aside0 (label_locator.l0 kq a0 x5_1 l1 (l1.length : Int) x11_1 = some r) ∧ Aside0 (kq ≤ k) ∧ Aside0 (Kd.R (Kd.int .u8) 5 w' w.heap.size (fun _ => True) v5 x5_1) ∧ Aside0 (Below w.heap.size w w'))
 case atStart => exact ⟨(y210), (0), (by first | rfl | (simp; done) | (simp [*]; done)), H', ⟨Nat.le_refl _⟩, ⟨by (with_reducible repeat (first | apply Kd.R_alloc | apply Kd.R_drewN | apply Kd.R_drew)); exact HO212.out⟩, ⟨by repeat (first | (with_reducible first | exact HB.out | apply below_alloc | apply pw_below_drewN | apply below_drew1) | exact HB.out)⟩⟩
 case round =>
  clear H'
  try clear c1
  try clear p2
  obtain ⟨x5_1, x11_1, rfl, HA, HK1, HO_5, HB⟩ := hrel
  cases gk with
  | zero => exact absurd HA.out (by simp [label_locator.l0])
  | succ k1 =>
   have H := HA.out
   clear HA
   simp only [label_locator.l0] at H
   by_cases c5 : x11_1 < (l1.length : Int)
   ·rw [if_pos c5] at H
    have c5b0 : decide (x11_1 < (l1.length : Int)) = true := decide_eq_true c5
    clear c5
    by_cases c6 : 0 ≤ x11_1
    ·rw [if_pos c6] at H
     have c6b0 : decide (0 ≤ x11_1) = true := decide_eq_true c6
     clear c6
     by_cases c7 : x11_1 < (l1.length : Int)
     ·rw [if_pos c7] at H
      have c7b0 : decide (x11_1 < (l1.length : Int)) = true := decide_eq_true c7
      clear c7
      replace H := Option.bind_eq_some_iff.mp H
      obtain ⟨t214, A80, H⟩ := H
      replace H : ((label_times.f x5_1 (([1, t214] : List Int)) (wrap64 ((x5_1.length : Int) + 1))).bind fun t218 => (label_locator.l0 k1 a0 t218 l1 (l1.length : Int) (wrap64 (x11_1 + 1)))) = some r := H
      have A8 := Aside0.mk A80; (try simp only [Int.toNat_natCast] at A8)
      clear A80
      obtain ⟨y215, hy215⟩ : ∃ y_ : List Int, y_ = (([1, t214] : List Int)) := ⟨_, rfl⟩
      replace H : ((label_times.f x5_1 y215 (wrap64 ((x5_1.length : Int) + 1))).bind fun t218 => (label_locator.l0 k1 a0 t218 l1 (l1.length : Int) (wrap64 (x11_1 + 1)))) = some r := by first | (rw [hy215]; with_reducible exact H) | (have H2_ := (Option.bind_some _ _).symm.trans H; rw [hy215]; with_reducible exact H2_) | (have H2_ := (Option.bind_some _ _).symm.trans H; with_reducible exact H2_) | with_reducible exact H | (rw [hy215]; exact H) | exact H
      have Ny215 := Aside0.mk hy215
      clear hy215
      replace H := Option.bind_eq_some_iff.mp H
      obtain ⟨t218, A90, H⟩ := H
      replace H : (label_locator.l0 k1 a0 t218 l1 (l1.length : Int) (wrap64 (x11_1 + 1))) = some r := H
      have A9 := Aside0.mk A90; (try simp only [Int.toNat_natCast] at A9)
      clear A90
      have H' := Aside0.mk H
      clear H
      have p213 : 0 ≤ (x11_1 : Int) := of_decide_eq_true (by first | (with_reducible assumption) | assumption)
      have q213 : x11_1 < (l1.length : Int) := of_decide_eq_true (by first | (with_reducible assumption) | assumption)
      obtain ⟨ad213, e213, hx213_0⟩ := Kd.at_int HR1.out x11_1 p213 q213
      cases e213
      replace hx213_0 := (HB.out.cell (World.block_lt_of_cell? w _ hx213_0)).trans hx213_0
      replace p213 := eq_true p213
      replace q213 := eq_true q213
      go_wp2_with (first | ((with_reducible refine gate_callee (f := 88) rfl ?_); refine goesL_ (some 20) rfl rfl Tryz.func88 (by kernel_rfl) rfl #[.int .i64 (wrap64 ((wrap64 (a0 - 1)) - (rd l1 x11_1)))] rfl (by (try simp only [List.map_toArray, List.map_cons, List.map_nil]); first | done | rfl | (simp only [List.length_drop, List.length_take]; rfl)) ?_; (with_reducible refine (label_exp.calls (wrap64 ((wrap64 (a0 - 1)) - (rd l1 x11_1))) t214 _ A8.out).mono ?_); rintro e w10 ⟨rfl, hb⟩; refine ⟨_, rfl, ?_⟩; have n0_ := Aside0.mk (Kd.R_below (by (with_reducible repeat (first | apply Kd.R_alloc | apply Kd.R_drewN | apply Kd.R_drew)); exact HO_5.out) hb); have n1_ := Aside0.mk (below_step (by repeat (first | (with_reducible first | exact HB.out | apply below_alloc | apply pw_below_drewN | apply below_drew1) | exact HB.out)) hb); clear HO_5; clear HB; have HO_5 := n0_; have HB := n1_; clear n0_ n1_; (try clear hb); (try clear hb2); (try clear hk); (try clear hi)) | ((with_reducible refine gate_dst (N := 21) rfl ?_); refine Kd.R_lit (Kd.int .u8) _ 5 ?hg (N := 21) ?hd (xs := ([1, t214] : List Int)) (inner := [.int .u8 1, .int .u8 t214]) (ok := fun _ => True) (okp := fun _ => True) ?hr ?hp (fun _ hk => hk) trivial (Below.refl _ _) (Nat.le_refl _) (by simp) ?_; (case hd => rfl); (case hg => rfl); (case hr => first | (go_simp; done) | (go_simp; rfl)); (case hp => exact (Reps.one (show Kd.M (Kd.int .u8) _ _ _ 1 [.int .u8 1] from rfl) (Reps.one (show Kd.M (Kd.int .u8) _ _ _ t214 [.int .u8 t214] from rfl) (Reps.none _ _)))); intro v216 w11 ho12 hb hg_ hnew_; clear hg_ hnew_; (first | rw [← Ny215.out] at ho12 | (simp only [Int.reduceToNat] at ho12; rw [← Ny215.out] at ho12)); have n0_ := Aside0.mk (Kd.R_elder' (by (with_reducible repeat (first | apply Kd.R_alloc | apply Kd.R_drewN | apply Kd.R_drew)); exact HO_5.out) (Kd.R_base ho12) hb); have n1_ := Aside0.mk (Kd.R_lower (Kd.R_new' ho12 (Kd.R_lt (by (with_reducible repeat (first | apply Kd.R_alloc | apply Kd.R_drewN | apply Kd.R_drew)); exact HO_5.out))) (below_size (by repeat (first | (with_reducible first | exact HB.out | apply below_alloc | apply pw_below_drewN | apply below_drew1) | exact HB.out)))); have n2_ := Aside0.mk (below_step (by repeat (first | (with_reducible first | exact HB.out | apply below_alloc | apply pw_below_drewN | apply below_drew1) | exact HB.out)) hb); clear HO_5; clear HB; have HO_5 := n0_; have HO217 := n1_; have HB := n2_; clear n0_ n1_ n2_; clear hb ho12; obtain ⟨Ao13, co13, eo13⟩ := Kd.R_slice HO_5.out; subst eo13; obtain ⟨Ao14, co14, eo14⟩ := Kd.R_slice HO217.out; subst eo14) | ((with_reducible refine gate_callee (f := 87) rfl ?_); refine goesL_ (some 25) rfl rfl Tryz.func87 (by kernel_rfl) rfl #[.slice Ao13 x5_1.length co13, .slice Ao14 y215.length co14, .int .i64 (wrap64 ((x5_1.length : Int) + 1))] rfl (by (try simp only [List.map_toArray, List.map_cons, List.map_nil]); first | done | rfl | (simp only [List.length_drop, List.length_take]; rfl)) ?_; (with_reducible refine (label_times.calls _ _ x5_1 _ _ y215 (wrap64 ((x5_1.length : Int) + 1)) t218 _ ?side1 ?side2 ?side3 ?side4 A9.out).mono ?_); (case side1 => repeat (first | exact (Kd.R_reads' HO_5.out).2.2 | (with_reducible refine Kd.C_alloc ?_ _) | (with_reducible refine Kd.C_drewN ?_ _) | (with_reducible refine Kd.C_drew ?_))); (case side2 => exact (Kd.R_reads' HO_5.out).2.1); (case side3 => repeat (first | exact (Kd.R_reads' HO217.out).2.2 | (with_reducible refine Kd.C_alloc ?_ _) | (with_reducible refine Kd.C_drewN ?_ _) | (with_reducible refine Kd.C_drew ?_))); (case side4 => exact (Kd.R_reads' HO217.out).2.1); rintro e w15 ⟨v219, rfl, ho0, hb⟩; refine ⟨_, rfl, ?_⟩; have n0_ := Aside0.mk (Kd.R_elder' (by (with_reducible repeat (first | apply Kd.R_alloc | apply Kd.R_drewN | apply Kd.R_drew)); exact HO_5.out) (Kd.R_base ho0) hb); have n1_ := Aside0.mk (Kd.R_elder' (by (with_reducible repeat (first | apply Kd.R_alloc | apply Kd.R_drewN | apply Kd.R_drew)); exact HO217.out) (Kd.R_base ho0) hb); have n2_ := Aside0.mk (Kd.R_lower (Kd.R_new' (Kd.R_new' ho0 (Kd.R_lt (by (with_reducible repeat (first | apply Kd.R_alloc | apply Kd.R_drewN | apply Kd.R_drew)); exact HO_5.out))) (Kd.R_lt (by (with_reducible repeat (first | apply Kd.R_alloc | apply Kd.R_drewN | apply Kd.R_drew)); exact HO217.out))) (below_size (by repeat (first | (with_reducible first | exact HB.out | apply below_alloc | apply pw_below_drewN | apply below_drew1) | exact HB.out)))); have n3_ := Aside0.mk (below_step (by repeat (first | (with_reducible first | exact HB.out | apply below_alloc | apply pw_below_drewN | apply below_drew1) | exact HB.out)) hb); clear HO_5; clear HO217; clear HB; have HO_5 := n0_; have HO217 := n1_; have HO220 := n2_; have HB := n3_; clear n0_ n1_ n2_ n3_; (try clear hb); (try clear hb2); (try clear hk); (try clear hi); (try clear ho0)))
      go_roundg k1
      case measure => have := HK1.out; omega
      case rel => exact ⟨(t218), (wrap64 (x11_1 + 1)), (by first | rfl | (simp; done) | (simp [*]; done)), H', ⟨by have := HK1.out; omega⟩, ⟨by (with_reducible repeat (first | apply Kd.R_alloc | apply Kd.R_drewN | apply Kd.R_drew)); exact Kd.R_mono HO220.out (fun _ hk => trivial)⟩, ⟨by repeat (first | (with_reducible first | exact HB.out | apply below_alloc | apply pw_below_drewN | apply below_drew1) | exact HB.out)⟩⟩
     ·rw [if_neg c7] at H
      exact absurd H (by simp)
    ·rw [if_neg c6] at H
     exact absurd H (by simp)
   ·rw [if_neg c5] at H
    have c5b0 : decide (x11_1 < (l1.length : Int)) = false := decide_eq_false c5
    clear c5
    obtain rfl := Option.some.inj H
    go_wp2
    go_ret
    exact ⟨_, by first | rfl | (simp [errW_none, errW_some] <;> rfl) | (simp [*, errW_none, errW_some] <;> rfl), by (with_reducible repeat (first | apply Kd.R_alloc | apply Kd.R_drewN | apply Kd.R_drew)); exact HO_5.out, by repeat (first | (with_reducible first | exact HB.out | apply below_alloc | apply pw_below_drewN | apply below_drew1) | exact HB.out)⟩
def decOut (k : Nat) (w : List Int) (p : Int) (l : List Int) : Option (Bool × List Int) :=
 (label_syndromes.f k w p).bind fun s => (label_zero.f k s).bind fun z => if z = true then some (true, w) else
  (label_locator.f k (w.length : Int) l).bind fun lc => (label_find.f k s lc).bind fun wh => (label_repair.f k w s wh).bind fun r => some (false, r)
def decEnd (k : Nat) (w : List Int) (p : Int) (l out : List Int) : Option (ByteArray × Int × Int) :=
 (label_changes.f w out l).bind fun c => if 0 ≤ c.2 ∧ c.2 ≤ 100000 ∧ (l.length : Int) ≤ 255 ∧ 0 ≤ (out.length : Int) - p ∧ (out.length : Int) ≤ 100000 then
  (if 2 * c.2 + (l.length : Int) > p then some (⟨#[]⟩, 0, 6) else
   (label_syndromes.f k out p).bind fun s => (label_zero.f k s).bind fun z => if z = true then some (strOfNums (out.take ((out.length : Int) - p).toNat), c.1, 0) else some (⟨#[]⟩, 0, 6)) else none
def label_Decode.f (k : Nat) (a0 : ByteArray) (a1 : Int) (l2 : List Int) : Option (ByteArray × Int × Int) :=
 if a0.size ≤ 100000 then
 (label_spots.f l2 (a0.size : Int)).bind fun sp => (label_isParameters.f (a0.size : Int) a1).bind fun t =>
  if t = false then some (⟨#[]⟩, 0, 2) else if sp.2 = false then some (⟨#[]⟩, 0, 2) else
  if 0 ≤ a1 ∧ a1 ≤ 64 then
  (if (sp.1.length : Int) > a1 then some (⟨#[]⟩, 0, 6) else (decOut k (bytesOf a0) a1 sp.1).bind fun o => decEnd k (bytesOf a0) a1 sp.1 o.2) else none
 else none
theorem decOut.mono : ∀ w p l k, LeO (decOut k w p l) (decOut (k + 1) w p l) := by
 intro w p l k
 unfold decOut
 repeat' first
   | (with_reducible exact label_syndromes.mono _ _ _)
   | (with_reducible exact label_zero.mono _ _)
   | (with_reducible exact label_locator.mono _ _ _)
   | (with_reducible exact label_find.mono _ _ _)
   | (with_reducible exact label_repair.mono _ _ _ _)
   | (with_reducible exact LeO.refl _)
   | (with_reducible refine LeO.ite ?_ ?_)
   | (with_reducible refine LeO.bind ?_ (fun _ => ?_))
theorem decEnd.mono : ∀ w p l out k, LeO (decEnd k w p l out) (decEnd (k + 1) w p l out) := by
 intro w p l out k
 unfold decEnd
 repeat' first
   | (with_reducible exact label_syndromes.mono _ _ _)
   | (with_reducible exact label_zero.mono _ _)
   | (with_reducible exact LeO.refl _)
   | (with_reducible refine LeO.ite ?_ ?_)
   | (with_reducible refine LeO.bind ?_ (fun _ => ?_))
theorem label_Decode.mono : ∀ a0 a1 a2 k, LeO (label_Decode.f k a0 a1 a2) (label_Decode.f (k + 1) a0 a1 a2) := by
 intro a0 a1 a2 k
 unfold label_Decode.f
 repeat' first
   | (with_reducible exact decOut.mono _ _ _ _)
   | (with_reducible exact decEnd.mono _ _ _ _ _)
   | (with_reducible exact LeO.refl _)
   | (with_reducible refine LeO.ite ?_ ?_)
   | (with_reducible refine LeO.bind ?_ (fun _ => ?_))
theorem bytes_C (W : World) (s : ByteArray) (hs : s.size ≤ 100000) : (Kd.int .u8).C (Lib.bytesWorld W 5 s) (some ⟨W.heap.size, 0, none⟩) s.size (bytesOf s) :=
 Kd.C_of_reads (enc := Value.int .u8) (h1 := fun _ => rfl) (d := (0 : Int)) (bytes_reads W 5 s (by omega))
theorem syndromes_at (k : Nat) (A0 : Option Addr) (n c0 : Nat) (l0 : List Int) (a1 : Int) (r : List Int) (w : World) (hn : l0.length = n) (hr0 : Kd.C (Kd.int .u8) w A0 n l0) (hc0 : n ≤ c0) (h : label_syndromes.f k l0 a1 = some r) :
  Calls Tryz.prog 56 #[.slice A0 n c0, .int .i64 a1] w fun e w' => ∃ v0_ : Value, e = .returned (v0_) ∧ Kd.R (Kd.int .u8) 5 w' w.heap.size (fun _ => True) v0_ r ∧ Below w.heap.size w w' := by
 subst hn; exact label_syndromes.calls k A0 c0 l0 a1 r w hr0 hc0 h
theorem repair_at (k : Nat) (A0 : Option Addr) (n c0 : Nat) (l0 : List Int) (A1 : Option Addr) (c1 : Nat) (l1 : List Int) (A2 : Option Addr) (c2 : Nat) (l2 : List Int) (r : List Int) (w : World) (hn : l0.length = n) (hr0 : Kd.C (Kd.int .u8) w A0 n l0) (hc0 : n ≤ c0) (hr1 : Kd.C (Kd.int .u8) w A1 l1.length l1) (hc1 : l1.length ≤ c1) (hr2 : Kd.C (Kd.int .u8) w A2 l2.length l2) (hc2 : l2.length ≤ c2) (h : label_repair.f k l0 l1 l2 = some r) :
  Calls Tryz.prog 58 #[.slice A0 n c0, .slice A1 l1.length c1, .slice A2 l2.length c2] w fun e w' => ∃ v0_ : Value, e = .returned (v0_) ∧ Kd.R (Kd.int .u8) 5 w' w.heap.size (fun _ => True) v0_ r ∧ Below w.heap.size w w' := by
 subst hn; exact label_repair.calls k A0 c0 l0 A1 c1 l1 A2 c2 l2 r w hr0 hc0 hr1 hc1 hr2 hc2 h
theorem changes_at (A0 : Option Addr) (n0 c0 : Nat) (l0 : List Int) (A1 : Option Addr) (n1 c1 : Nat) (l1 : List Int) (A2 : Option Addr) (c2 : Nat) (l2 : List Int) (r1 r2 : Int) (w : World) (h0 : l0.length = n0) (h1 : l1.length = n1)
  (hr0 : Kd.C (Kd.int .u8) w A0 n0 l0) (hc0 : n0 ≤ c0) (hr1 : Kd.C (Kd.int .u8) w A1 n1 l1) (hc1 : n1 ≤ c1) (hr2 : Kd.C (Kd.int .i64) w A2 l2.length l2) (hc2 : l2.length ≤ c2) (h : label_changes.f l0 l1 l2 = some (r1, r2)) :
  Calls Tryz.prog 61 #[.slice A0 n0 c0, .slice A1 n1 c1, .slice A2 l2.length c2] w fun e w' => e = .returned (.tuple #[.int .i64 r1, .int .i64 r2]) ∧ Below w.heap.size w w' := by
 subst h0; subst h1; exact label_changes.calls A0 c0 l0 A1 c1 l1 A2 c2 l2 r1 r2 w hr0 hc0 hr1 hc1 hr2 hc2 h
set_option maxHeartbeats 4000000 in
set_option maxRecDepth 100000 in
theorem dec_par (k : Nat) (a0 : ByteArray) (a1 : Int) (A2 : Option Addr) (c2 : Nat) (l2 : List Int) (sl : List Int) (w : World) (hr2 : Kd.C (Kd.int .i64) w A2 l2.length l2) (hc2 : l2.length ≤ c2) (hs : a0.size ≤ 100000) (bs : Bool) (hsp : label_spots.f l2 (a0.size : Int) = some (sl, bs)) (hp : label_isParameters.f (a0.size : Int) a1 = some false) :
  Calls Tryz.prog 28 #[.string a0, .int .i64 a1, .slice A2 l2.length c2] w fun e w' => e = .returned (.tuple #[.string ⟨#[]⟩, .int .i64 0, .int .i64 2]) ∧ Below w.heap.size w w' := by
 have HR2 := Aside0.mk hr2
 have HC2 := Aside0.mk hc2
 have HSZ := hid hs
 have hs1 : (a0.size : Int) ≤ 100000 := by omega
 clear hr2 hc2 hs
 have HSP := hid hsp
 have HP := hid hp
 clear hsp hp
 go_enter Tryz.func28, Tryz.ntmps28
 go_wp2_with (first | (go_at_call 55; refine (label_spots.calls A2 c2 l2 _ sl bs _ HR2.out HC2.out HSP.out).mono ?_; rintro e w1 ⟨vl, rfl, ho, hb⟩; obtain ⟨AL, cL, eL⟩ := Kd.R_slice ho; subst eL; have HOL := Aside0.mk (Kd.R_reads' ho).2.2; have HCL := Aside0.mk (Kd.R_reads' ho).2.1; have HBB := Aside0.mk hb; clear ho hb) | (go_at_call 52; refine (label_isParameters.calls _ _ false _ HP.out).mono ?_; rintro e w2 ⟨rfl, ⟨nd, rfl⟩⟩))
 go_ret3
 exact ⟨rfl, pw_below_drewN HBB.out _⟩
set_option maxHeartbeats 4000000 in
set_option maxRecDepth 100000 in
theorem dec_spot (k : Nat) (a0 : ByteArray) (a1 : Int) (A2 : Option Addr) (c2 : Nat) (l2 : List Int) (sl : List Int) (w : World) (hr2 : Kd.C (Kd.int .i64) w A2 l2.length l2) (hc2 : l2.length ≤ c2) (hs : a0.size ≤ 100000) (bs : Bool) (hsp : label_spots.f l2 (a0.size : Int) = some (sl, false)) (hp : label_isParameters.f (a0.size : Int) a1 = some true) :
  Calls Tryz.prog 28 #[.string a0, .int .i64 a1, .slice A2 l2.length c2] w fun e w' => e = .returned (.tuple #[.string ⟨#[]⟩, .int .i64 0, .int .i64 2]) ∧ Below w.heap.size w w' := by
 have HR2 := Aside0.mk hr2
 have HC2 := Aside0.mk hc2
 have HSZ := hid hs
 have hs1 : (a0.size : Int) ≤ 100000 := by omega
 clear hr2 hc2 hs
 have HSP := hid hsp
 have HP := hid hp
 clear hsp hp
 go_enter Tryz.func28, Tryz.ntmps28
 go_wp2_with (first | (go_at_call 55; refine (label_spots.calls A2 c2 l2 _ sl false _ HR2.out HC2.out HSP.out).mono ?_; rintro e w1 ⟨vl, rfl, ho, hb⟩; obtain ⟨AL, cL, eL⟩ := Kd.R_slice ho; subst eL; have HOL := Aside0.mk (Kd.R_reads' ho).2.2; have HCL := Aside0.mk (Kd.R_reads' ho).2.1; have HBB := Aside0.mk hb; clear ho hb) | (go_at_call 52; refine (label_isParameters.calls _ _ true _ HP.out).mono ?_; rintro e w2 ⟨rfl, ⟨nd, rfl⟩⟩))
 go_ret3
 exact ⟨rfl, pw_below_drewN HBB.out _⟩
set_option maxHeartbeats 4000000 in
set_option maxRecDepth 100000 in
theorem dec_many (k : Nat) (a0 : ByteArray) (a1 : Int) (A2 : Option Addr) (c2 : Nat) (l2 : List Int) (sl : List Int) (w : World) (hr2 : Kd.C (Kd.int .i64) w A2 l2.length l2) (hc2 : l2.length ≤ c2) (hs : a0.size ≤ 100000) (hsp : label_spots.f l2 (a0.size : Int) = some (sl, true)) (hp : label_isParameters.f (a0.size : Int) a1 = some true) (hlen : (sl.length : Int) > a1) :
  Calls Tryz.prog 28 #[.string a0, .int .i64 a1, .slice A2 l2.length c2] w fun e w' => e = .returned (.tuple #[.string ⟨#[]⟩, .int .i64 0, .int .i64 6]) ∧ Below w.heap.size w w' := by
 have HR2 := Aside0.mk hr2
 have HC2 := Aside0.mk hc2
 have HSZ := hid hs
 have hs1 : (a0.size : Int) ≤ 100000 := by omega
 clear hr2 hc2 hs
 have HSP := hid hsp
 have HP := hid hp
 have d1 : decide (a1 < (sl.length : Int)) = true := decide_eq_true (by omega)
 clear hsp hp hlen
 go_enter Tryz.func28, Tryz.ntmps28
 go_wp2_with (first | (go_at_call 55; refine (label_spots.calls A2 c2 l2 _ sl true _ HR2.out HC2.out HSP.out).mono ?_; rintro e w1 ⟨vl, rfl, ho, hb⟩; obtain ⟨AL, cL, eL⟩ := Kd.R_slice ho; subst eL; have HOL := Aside0.mk (Kd.R_reads' ho).2.2; have HCL := Aside0.mk (Kd.R_reads' ho).2.1; have HBB := Aside0.mk hb; clear ho hb) | (go_at_call 52; refine (label_isParameters.calls _ _ true _ HP.out).mono ?_; rintro e w2 ⟨rfl, ⟨nd, rfl⟩⟩))
 go_ret3
 exact ⟨rfl, pw_below_drewN HBB.out _⟩
set_option maxHeartbeats 4000000 in
set_option maxRecDepth 100000 in
theorem dec_clean_far (k : Nat) (a0 : ByteArray) (a1 : Int) (A2 : Option Addr) (c2 : Nat) (l2 : List Int) (sl : List Int) (w : World) (hr2 : Kd.C (Kd.int .i64) w A2 l2.length l2) (hc2 : l2.length ≤ c2) (hs : a0.size ≤ 100000) (st lc wh out : List Int) (ca cb : Int) (s2 : List Int) (hsp : label_spots.f l2 (a0.size : Int) = some (sl, true)) (hp : label_isParameters.f (a0.size : Int) a1 = some true) (ha0 : 0 ≤ a1) (ha1 : a1 ≤ 64) (hlen : (sl.length : Int) ≤ a1) (hst : label_syndromes.f k (bytesOf a0) a1 = some st) (hz : label_zero.f k st = some true) (hout : out = bytesOf a0) (hch : label_changes.f (bytesOf a0) out sl = some (ca, cb)) (hb0 : 0 ≤ cb) (hb1 : cb ≤ 100000) (hol : (out.length : Int) ≤ 100000) (hop : 0 ≤ (out.length : Int) - a1) (hfar : 2 * cb + (sl.length : Int) > a1) :
  Calls Tryz.prog 28 #[.string a0, .int .i64 a1, .slice A2 l2.length c2] w fun e w' => e = .returned (.tuple #[.string ⟨#[]⟩, .int .i64 0, .int .i64 6]) ∧ Below w.heap.size w w' := by
 have HR2 := Aside0.mk hr2
 have HC2 := Aside0.mk hc2
 have HSZ := hid hs
 have hs1 : (a0.size : Int) ≤ 100000 := by omega
 clear hr2 hc2 hs
 have HSP := hid hsp
 have HP := hid hp
 have d1 : decide (a1 < (sl.length : Int)) = false := decide_eq_false (by omega)
 have HST := hid hst
 have HZ := hid hz
 have HCH := hid hch
 have d2 : decide (a1 < 2 * cb + (sl.length : Int)) = true := decide_eq_true (by omega)
 have hsl : (sl.length : Int) ≤ 64 := by omega
 have HBL := hid (bytesOf_length a0)
 have kb := fun W => print_bytes (P := Tryz.prog) 9 32 5 Tryz.underlying9 Tryz.underlying32 Tryz.underlying5 a0 W
 clear hsp hp hst hz hch hlen hfar
 have HOUT := hid hout
 clear hout
 go_enter Tryz.func28, Tryz.ntmps28
 go_wp2_with (first | (go_at_call 55; refine (label_spots.calls A2 c2 l2 _ sl true _ HR2.out HC2.out HSP.out).mono ?_; rintro e w1 ⟨vl, rfl, ho, hb⟩; obtain ⟨AL, cL, eL⟩ := Kd.R_slice ho; subst eL; have HOL := Aside0.mk (Kd.R_reads' ho).2.2; have HCL := Aside0.mk (Kd.R_reads' ho).2.1; have HBB := Aside0.mk hb; clear ho hb) | (go_at_call 52; refine (label_isParameters.calls _ _ true _ HP.out).mono ?_; rintro e w2 ⟨rfl, ⟨nd, rfl⟩⟩))
 have hW : Kd.C (Kd.int .u8) (Lib.bytesWorld (w1.drewN nd) 5 a0) (some ⟨w1.heap.size, 0, none⟩) a0.size (bytesOf a0) := bytes_C (w1.drewN nd) a0 HSZ.out
 have hbw := bytes_below (pw_below_drewN (Below.refl w1.heap.size w1) nd) (by simp [World.drewN]) 5 a0
 have hcap := grownCap_ge (w1.drewN nd) a0.size 0 5
 obtain ⟨W, eW⟩ : ∃ W, W = Lib.bytesWorld (w1.drewN nd) 5 a0 := ⟨_, rfl⟩
 obtain ⟨cp, ecp⟩ : ∃ cp, cp = grownCap (w1.drewN nd) a0.size 0 5 := ⟨_, rfl⟩
 obtain ⟨gw, egw⟩ : ∃ gw, gw = w1.heap.size := ⟨_, rfl⟩
 (try simp only [← eW, ← ecp, ← egw])
 rw [← eW, ← egw] at hW
 rw [← eW] at hbw
 rw [← ecp] at hcap
 have HW := Aside0.mk hW
 have HCP := Aside0.mk hcap
 have HBB := Aside0.mk (HBB.out.trans (hbw.mono HBB.out.size))
 have HOL := Aside0.mk (Kd.C_below HOL.out hbw)
 clear hW hcap hbw eW ecp egw kb
 refine (syndromes_at k _ _ _ _ a1 st _ HBL.out HW.out HCP.out HST.out).mono ?_
 rintro e w3 ⟨vs, rfl, ho, hb⟩
 obtain ⟨AS, cS, eS⟩ := Kd.R_slice ho
 subst eS
 have HOS := Aside0.mk (Kd.R_reads' ho).2.2
 have HCS := Aside0.mk (Kd.R_reads' ho).2.1
 have HW3 := Aside0.mk (Kd.C_below HW.out hb)
 have HOL3 := Aside0.mk (Kd.C_below HOL.out hb)
 have HB3 := Aside0.mk (HBB.out.trans (hb.mono HBB.out.size))
 clear ho hb HW HOL HBB
 go_wp2_with (go_at_call 57; refine (label_zero.calls k _ _ _ true _ HOS.out HCS.out HZ.out).mono ?_; rintro e w4 ⟨rfl, ⟨nz, rfl⟩⟩)
 refine (changes_at _ _ _ (bytesOf a0) _ _ _ out _ _ sl ca cb _ HBL.out (by rw [HOUT.out]; exact HBL.out) (Kd.C_drewN HW3.out _) HCP.out (by rw [HOUT.out]; exact Kd.C_drewN HW3.out _) HCP.out (Kd.C_drewN HOL3.out _) HCL.out HCH.out).mono ?_
 rintro e w5 ⟨rfl, hb⟩
 have HO5 := Aside0.mk (show Kd.C (Kd.int .u8) w5 (some ⟨gw, 0, none⟩) a0.size out by rw [HOUT.out]; exact Kd.C_below (Kd.C_drewN HW3.out nz) hb)
 have HOC := Aside0.mk HCP.out
 have HON := hid (show out.length = a0.size by rw [HOUT.out]; exact HBL.out)
 have HB5 := Aside0.mk ((pw_below_drewN HB3.out nz).trans (hb.mono (by simpa [World.drewN] using HB3.out.size)))
 clear hb
 go_wp2
 go_ret3
 exact ⟨rfl, HB5.out⟩
set_option maxHeartbeats 4000000 in
set_option maxRecDepth 100000 in
theorem dec_clean_bad (k : Nat) (a0 : ByteArray) (a1 : Int) (A2 : Option Addr) (c2 : Nat) (l2 : List Int) (sl : List Int) (w : World) (hr2 : Kd.C (Kd.int .i64) w A2 l2.length l2) (hc2 : l2.length ≤ c2) (hs : a0.size ≤ 100000) (st lc wh out : List Int) (ca cb : Int) (s2 : List Int) (hsp : label_spots.f l2 (a0.size : Int) = some (sl, true)) (hp : label_isParameters.f (a0.size : Int) a1 = some true) (ha0 : 0 ≤ a1) (ha1 : a1 ≤ 64) (hlen : (sl.length : Int) ≤ a1) (hst : label_syndromes.f k (bytesOf a0) a1 = some st) (hz : label_zero.f k st = some true) (hout : out = bytesOf a0) (hch : label_changes.f (bytesOf a0) out sl = some (ca, cb)) (hb0 : 0 ≤ cb) (hb1 : cb ≤ 100000) (hol : (out.length : Int) ≤ 100000) (hop : 0 ≤ (out.length : Int) - a1) (hfar : ¬ 2 * cb + (sl.length : Int) > a1) (hs2 : label_syndromes.f k out a1 = some s2) (hz2 : label_zero.f k s2 = some false) :
  Calls Tryz.prog 28 #[.string a0, .int .i64 a1, .slice A2 l2.length c2] w fun e w' => e = .returned (.tuple #[.string ⟨#[]⟩, .int .i64 0, .int .i64 6]) ∧ Below w.heap.size w w' := by
 have HR2 := Aside0.mk hr2
 have HC2 := Aside0.mk hc2
 have HSZ := hid hs
 have hs1 : (a0.size : Int) ≤ 100000 := by omega
 clear hr2 hc2 hs
 have HSP := hid hsp
 have HP := hid hp
 have d1 : decide (a1 < (sl.length : Int)) = false := decide_eq_false (by omega)
 have HST := hid hst
 have HZ := hid hz
 have HCH := hid hch
 have d2 : decide (a1 < 2 * cb + (sl.length : Int)) = false := decide_eq_false (by omega)
 have HS2 := hid hs2
 have HZ2 := hid hz2
 clear hs2 hz2
 have hsl : (sl.length : Int) ≤ 64 := by omega
 have HBL := hid (bytesOf_length a0)
 have kb := fun W => print_bytes (P := Tryz.prog) 9 32 5 Tryz.underlying9 Tryz.underlying32 Tryz.underlying5 a0 W
 clear hsp hp hst hz hch hlen hfar
 have HOUT := hid hout
 clear hout
 go_enter Tryz.func28, Tryz.ntmps28
 go_wp2_with (first | (go_at_call 55; refine (label_spots.calls A2 c2 l2 _ sl true _ HR2.out HC2.out HSP.out).mono ?_; rintro e w1 ⟨vl, rfl, ho, hb⟩; obtain ⟨AL, cL, eL⟩ := Kd.R_slice ho; subst eL; have HOL := Aside0.mk (Kd.R_reads' ho).2.2; have HCL := Aside0.mk (Kd.R_reads' ho).2.1; have HBB := Aside0.mk hb; clear ho hb) | (go_at_call 52; refine (label_isParameters.calls _ _ true _ HP.out).mono ?_; rintro e w2 ⟨rfl, ⟨nd, rfl⟩⟩))
 have hW : Kd.C (Kd.int .u8) (Lib.bytesWorld (w1.drewN nd) 5 a0) (some ⟨w1.heap.size, 0, none⟩) a0.size (bytesOf a0) := bytes_C (w1.drewN nd) a0 HSZ.out
 have hbw := bytes_below (pw_below_drewN (Below.refl w1.heap.size w1) nd) (by simp [World.drewN]) 5 a0
 have hcap := grownCap_ge (w1.drewN nd) a0.size 0 5
 obtain ⟨W, eW⟩ : ∃ W, W = Lib.bytesWorld (w1.drewN nd) 5 a0 := ⟨_, rfl⟩
 obtain ⟨cp, ecp⟩ : ∃ cp, cp = grownCap (w1.drewN nd) a0.size 0 5 := ⟨_, rfl⟩
 obtain ⟨gw, egw⟩ : ∃ gw, gw = w1.heap.size := ⟨_, rfl⟩
 (try simp only [← eW, ← ecp, ← egw])
 rw [← eW, ← egw] at hW
 rw [← eW] at hbw
 rw [← ecp] at hcap
 have HW := Aside0.mk hW
 have HCP := Aside0.mk hcap
 have HBB := Aside0.mk (HBB.out.trans (hbw.mono HBB.out.size))
 have HOL := Aside0.mk (Kd.C_below HOL.out hbw)
 clear hW hcap hbw eW ecp egw kb
 refine (syndromes_at k _ _ _ _ a1 st _ HBL.out HW.out HCP.out HST.out).mono ?_
 rintro e w3 ⟨vs, rfl, ho, hb⟩
 obtain ⟨AS, cS, eS⟩ := Kd.R_slice ho
 subst eS
 have HOS := Aside0.mk (Kd.R_reads' ho).2.2
 have HCS := Aside0.mk (Kd.R_reads' ho).2.1
 have HW3 := Aside0.mk (Kd.C_below HW.out hb)
 have HOL3 := Aside0.mk (Kd.C_below HOL.out hb)
 have HB3 := Aside0.mk (HBB.out.trans (hb.mono HBB.out.size))
 clear ho hb HW HOL HBB
 go_wp2_with (go_at_call 57; refine (label_zero.calls k _ _ _ true _ HOS.out HCS.out HZ.out).mono ?_; rintro e w4 ⟨rfl, ⟨nz, rfl⟩⟩)
 refine (changes_at _ _ _ (bytesOf a0) _ _ _ out _ _ sl ca cb _ HBL.out (by rw [HOUT.out]; exact HBL.out) (Kd.C_drewN HW3.out _) HCP.out (by rw [HOUT.out]; exact Kd.C_drewN HW3.out _) HCP.out (Kd.C_drewN HOL3.out _) HCL.out HCH.out).mono ?_
 rintro e w5 ⟨rfl, hb⟩
 have HO5 := Aside0.mk (show Kd.C (Kd.int .u8) w5 (some ⟨gw, 0, none⟩) a0.size out by rw [HOUT.out]; exact Kd.C_below (Kd.C_drewN HW3.out nz) hb)
 have HOC := Aside0.mk HCP.out
 have HON := hid (show out.length = a0.size by rw [HOUT.out]; exact HBL.out)
 have HB5 := Aside0.mk ((pw_below_drewN HB3.out nz).trans (hb.mono (by simpa [World.drewN] using HB3.out.size)))
 clear hb
 go_wp2_with (fail)
 refine (syndromes_at k _ _ _ _ a1 s2 _ HON.out HO5.out HOC.out HS2.out).mono ?_
 rintro e w9 ⟨v2, rfl, ho, hb⟩
 obtain ⟨A9, c9, e9⟩ := Kd.R_slice ho
 subst e9
 have HO9 := Aside0.mk (Kd.R_reads' ho).2.2
 have HC9 := Aside0.mk (Kd.R_reads' ho).2.1
 have HX9 := Aside0.mk (Kd.C_below HO5.out hb)
 have HB9 := Aside0.mk (HB5.out.trans (hb.mono HB5.out.size))
 clear ho hb HO5 HB5
 go_wp2_with (go_at_call 57; refine (label_zero.calls k _ _ _ false _ HO9.out HC9.out HZ2.out).mono ?_; rintro e w4 ⟨rfl, ⟨ny, rfl⟩⟩)
 go_ret3
 exact ⟨rfl, pw_below_drewN HB9.out _⟩
set_option maxHeartbeats 4000000 in
set_option maxRecDepth 100000 in
theorem dec_clean_ok (k : Nat) (a0 : ByteArray) (a1 : Int) (A2 : Option Addr) (c2 : Nat) (l2 : List Int) (sl : List Int) (w : World) (hr2 : Kd.C (Kd.int .i64) w A2 l2.length l2) (hc2 : l2.length ≤ c2) (hs : a0.size ≤ 100000) (st lc wh out : List Int) (ca cb : Int) (s2 : List Int) (hsp : label_spots.f l2 (a0.size : Int) = some (sl, true)) (hp : label_isParameters.f (a0.size : Int) a1 = some true) (ha0 : 0 ≤ a1) (ha1 : a1 ≤ 64) (hlen : (sl.length : Int) ≤ a1) (hst : label_syndromes.f k (bytesOf a0) a1 = some st) (hz : label_zero.f k st = some true) (hout : out = bytesOf a0) (hch : label_changes.f (bytesOf a0) out sl = some (ca, cb)) (hb0 : 0 ≤ cb) (hb1 : cb ≤ 100000) (hol : (out.length : Int) ≤ 100000) (hop : 0 ≤ (out.length : Int) - a1) (hfar : ¬ 2 * cb + (sl.length : Int) > a1) (hs2 : label_syndromes.f k out a1 = some s2) (hz2 : label_zero.f k s2 = some true) :
  Calls Tryz.prog 28 #[.string a0, .int .i64 a1, .slice A2 l2.length c2] w fun e w' => e = .returned (.tuple #[.string (strOfNums (out.take ((out.length : Int) - a1).toNat)), .int .i64 ca, .int .i64 0]) ∧ Below w.heap.size w w' := by
 have HR2 := Aside0.mk hr2
 have HC2 := Aside0.mk hc2
 have HSZ := hid hs
 have hs1 : (a0.size : Int) ≤ 100000 := by omega
 clear hr2 hc2 hs
 have HSP := hid hsp
 have HP := hid hp
 have d1 : decide (a1 < (sl.length : Int)) = false := decide_eq_false (by omega)
 have HST := hid hst
 have HZ := hid hz
 have HCH := hid hch
 have d2 : decide (a1 < 2 * cb + (sl.length : Int)) = false := decide_eq_false (by omega)
 have HS2 := hid hs2
 have HZ2 := hid hz2
 clear hs2 hz2
 have hsl : (sl.length : Int) ≤ 64 := by omega
 have HBL := hid (bytesOf_length a0)
 have kb := fun W => print_bytes (P := Tryz.prog) 9 32 5 Tryz.underlying9 Tryz.underlying32 Tryz.underlying5 a0 W
 clear hsp hp hst hz hch hlen hfar
 have HOUT := hid hout
 clear hout
 go_enter Tryz.func28, Tryz.ntmps28
 go_wp2_with (first | (go_at_call 55; refine (label_spots.calls A2 c2 l2 _ sl true _ HR2.out HC2.out HSP.out).mono ?_; rintro e w1 ⟨vl, rfl, ho, hb⟩; obtain ⟨AL, cL, eL⟩ := Kd.R_slice ho; subst eL; have HOL := Aside0.mk (Kd.R_reads' ho).2.2; have HCL := Aside0.mk (Kd.R_reads' ho).2.1; have HBB := Aside0.mk hb; clear ho hb) | (go_at_call 52; refine (label_isParameters.calls _ _ true _ HP.out).mono ?_; rintro e w2 ⟨rfl, ⟨nd, rfl⟩⟩))
 have hW : Kd.C (Kd.int .u8) (Lib.bytesWorld (w1.drewN nd) 5 a0) (some ⟨w1.heap.size, 0, none⟩) a0.size (bytesOf a0) := bytes_C (w1.drewN nd) a0 HSZ.out
 have hbw := bytes_below (pw_below_drewN (Below.refl w1.heap.size w1) nd) (by simp [World.drewN]) 5 a0
 have hcap := grownCap_ge (w1.drewN nd) a0.size 0 5
 obtain ⟨W, eW⟩ : ∃ W, W = Lib.bytesWorld (w1.drewN nd) 5 a0 := ⟨_, rfl⟩
 obtain ⟨cp, ecp⟩ : ∃ cp, cp = grownCap (w1.drewN nd) a0.size 0 5 := ⟨_, rfl⟩
 obtain ⟨gw, egw⟩ : ∃ gw, gw = w1.heap.size := ⟨_, rfl⟩
 (try simp only [← eW, ← ecp, ← egw])
 rw [← eW, ← egw] at hW
 rw [← eW] at hbw
 rw [← ecp] at hcap
 have HW := Aside0.mk hW
 have HCP := Aside0.mk hcap
 have HBB := Aside0.mk (HBB.out.trans (hbw.mono HBB.out.size))
 have HOL := Aside0.mk (Kd.C_below HOL.out hbw)
 clear hW hcap hbw eW ecp egw kb
 refine (syndromes_at k _ _ _ _ a1 st _ HBL.out HW.out HCP.out HST.out).mono ?_
 rintro e w3 ⟨vs, rfl, ho, hb⟩
 obtain ⟨AS, cS, eS⟩ := Kd.R_slice ho
 subst eS
 have HOS := Aside0.mk (Kd.R_reads' ho).2.2
 have HCS := Aside0.mk (Kd.R_reads' ho).2.1
 have HW3 := Aside0.mk (Kd.C_below HW.out hb)
 have HOL3 := Aside0.mk (Kd.C_below HOL.out hb)
 have HB3 := Aside0.mk (HBB.out.trans (hb.mono HBB.out.size))
 clear ho hb HW HOL HBB
 go_wp2_with (go_at_call 57; refine (label_zero.calls k _ _ _ true _ HOS.out HCS.out HZ.out).mono ?_; rintro e w4 ⟨rfl, ⟨nz, rfl⟩⟩)
 refine (changes_at _ _ _ (bytesOf a0) _ _ _ out _ _ sl ca cb _ HBL.out (by rw [HOUT.out]; exact HBL.out) (Kd.C_drewN HW3.out _) HCP.out (by rw [HOUT.out]; exact Kd.C_drewN HW3.out _) HCP.out (Kd.C_drewN HOL3.out _) HCL.out HCH.out).mono ?_
 rintro e w5 ⟨rfl, hb⟩
 have HO5 := Aside0.mk (show Kd.C (Kd.int .u8) w5 (some ⟨gw, 0, none⟩) a0.size out by rw [HOUT.out]; exact Kd.C_below (Kd.C_drewN HW3.out nz) hb)
 have HOC := Aside0.mk HCP.out
 have HON := hid (show out.length = a0.size by rw [HOUT.out]; exact HBL.out)
 have HB5 := Aside0.mk ((pw_below_drewN HB3.out nz).trans (hb.mono (by simpa [World.drewN] using HB3.out.size)))
 clear hb
 go_wp2_with (fail)
 refine (syndromes_at k _ _ _ _ a1 s2 _ HON.out HO5.out HOC.out HS2.out).mono ?_
 rintro e w9 ⟨v2, rfl, ho, hb⟩
 obtain ⟨A9, c9, e9⟩ := Kd.R_slice ho
 subst e9
 have HO9 := Aside0.mk (Kd.R_reads' ho).2.2
 have HC9 := Aside0.mk (Kd.R_reads' ho).2.1
 have HX9 := Aside0.mk (Kd.C_below HO5.out hb)
 have HB9 := Aside0.mk (HB5.out.trans (hb.mono HB5.out.size))
 clear ho hb HO5 HB5
 go_wp2_with (fail)
 refine (label_zero.calls k _ _ _ true _ HO9.out HC9.out HZ2.out).mono ?_
 rintro e w4 ⟨rfl, ⟨ny, rfl⟩⟩
 obtain ⟨i0, hi0, _, hsz, _⟩ := info_parts Tryz.infoU8
 have hnn : out.length = a0.size := HON.out
 have hcut := cut_to (P := Tryz.prog) 32 5 .i64 Tryz.underlying32 hi0 (some ⟨gw, 0, none⟩) a0.size cp ((a0.size : Int) - a1) (by omega) (by omega) HOC.out
 have hr := Kd.C_take (m := ((a0.size : Int) - a1).toNat) (by rw [hnn]; exact Kd.C_drewN HX9.out ny) (by omega)
 obtain ⟨m1, hm1⟩ : ∃ m1 : Nat, m1 = ((a0.size : Int) - a1).toNat := ⟨_, rfl⟩
 rw [← hm1] at hcut hr
 have hlt : (out.take m1).length = m1 := by rw [List.length_take]; omega
 rw [hlt] at hr
 have hcv := Kd.C_string (P := Tryz.prog) (c := cp) Tryz.underlying32 Tryz.underlying5 Tryz.underlying9 hr
 have HM1 := hid (show m1 = ((out.length : Int) - a1).toNat by rw [hm1, hnn])
 have b1 : (0 : Int) ≤ (a0.size : Int) - a1 := by omega
 have b2 : (a0.size : Int) ≤ 100000 := by omega
 clear hr hlt hm1 hnn hi0 hsz
 go_wp2
 go_ret3
 exact ⟨by rw [← HM1.out]; rfl, pw_below_drewN HB9.out _⟩
set_option maxHeartbeats 4000000 in
set_option maxRecDepth 100000 in
theorem dec_mend_far (k : Nat) (a0 : ByteArray) (a1 : Int) (A2 : Option Addr) (c2 : Nat) (l2 : List Int) (sl : List Int) (w : World) (hr2 : Kd.C (Kd.int .i64) w A2 l2.length l2) (hc2 : l2.length ≤ c2) (hs : a0.size ≤ 100000) (st lc wh out : List Int) (ca cb : Int) (s2 : List Int) (hsp : label_spots.f l2 (a0.size : Int) = some (sl, true)) (hp : label_isParameters.f (a0.size : Int) a1 = some true) (ha0 : 0 ≤ a1) (ha1 : a1 ≤ 64) (hlen : (sl.length : Int) ≤ a1) (hst : label_syndromes.f k (bytesOf a0) a1 = some st) (hz : label_zero.f k st = some false) (hlc : label_locator.f k ((bytesOf a0).length : Int) sl = some lc) (hwh : label_find.f k st lc = some wh) (hrp : label_repair.f k (bytesOf a0) st wh = some out) (hch : label_changes.f (bytesOf a0) out sl = some (ca, cb)) (hb0 : 0 ≤ cb) (hb1 : cb ≤ 100000) (hol : (out.length : Int) ≤ 100000) (hop : 0 ≤ (out.length : Int) - a1) (hfar : 2 * cb + (sl.length : Int) > a1) :
  Calls Tryz.prog 28 #[.string a0, .int .i64 a1, .slice A2 l2.length c2] w fun e w' => e = .returned (.tuple #[.string ⟨#[]⟩, .int .i64 0, .int .i64 6]) ∧ Below w.heap.size w w' := by
 have HR2 := Aside0.mk hr2
 have HC2 := Aside0.mk hc2
 have HSZ := hid hs
 have hs1 : (a0.size : Int) ≤ 100000 := by omega
 clear hr2 hc2 hs
 have HSP := hid hsp
 have HP := hid hp
 have d1 : decide (a1 < (sl.length : Int)) = false := decide_eq_false (by omega)
 have HST := hid hst
 have HZ := hid hz
 have HLC := hid hlc
 have HWH := hid hwh
 have HRP := hid hrp
 have HCH := hid hch
 have d2 : decide (a1 < 2 * cb + (sl.length : Int)) = true := decide_eq_true (by omega)
 have hsl : (sl.length : Int) ≤ 64 := by omega
 have HBL := hid (bytesOf_length a0)
 have kb := fun W => print_bytes (P := Tryz.prog) 9 32 5 Tryz.underlying9 Tryz.underlying32 Tryz.underlying5 a0 W
 clear hsp hp hst hz hch hlen hfar hlc hwh hrp
 go_enter Tryz.func28, Tryz.ntmps28
 go_wp2_with (first | (go_at_call 55; refine (label_spots.calls A2 c2 l2 _ sl true _ HR2.out HC2.out HSP.out).mono ?_; rintro e w1 ⟨vl, rfl, ho, hb⟩; obtain ⟨AL, cL, eL⟩ := Kd.R_slice ho; subst eL; have HOL := Aside0.mk (Kd.R_reads' ho).2.2; have HCL := Aside0.mk (Kd.R_reads' ho).2.1; have HBB := Aside0.mk hb; clear ho hb) | (go_at_call 52; refine (label_isParameters.calls _ _ true _ HP.out).mono ?_; rintro e w2 ⟨rfl, ⟨nd, rfl⟩⟩))
 have hW : Kd.C (Kd.int .u8) (Lib.bytesWorld (w1.drewN nd) 5 a0) (some ⟨w1.heap.size, 0, none⟩) a0.size (bytesOf a0) := bytes_C (w1.drewN nd) a0 HSZ.out
 have hbw := bytes_below (pw_below_drewN (Below.refl w1.heap.size w1) nd) (by simp [World.drewN]) 5 a0
 have hcap := grownCap_ge (w1.drewN nd) a0.size 0 5
 obtain ⟨W, eW⟩ : ∃ W, W = Lib.bytesWorld (w1.drewN nd) 5 a0 := ⟨_, rfl⟩
 obtain ⟨cp, ecp⟩ : ∃ cp, cp = grownCap (w1.drewN nd) a0.size 0 5 := ⟨_, rfl⟩
 obtain ⟨gw, egw⟩ : ∃ gw, gw = w1.heap.size := ⟨_, rfl⟩
 (try simp only [← eW, ← ecp, ← egw])
 rw [← eW, ← egw] at hW
 rw [← eW] at hbw
 rw [← ecp] at hcap
 have HW := Aside0.mk hW
 have HCP := Aside0.mk hcap
 have HBB := Aside0.mk (HBB.out.trans (hbw.mono HBB.out.size))
 have HOL := Aside0.mk (Kd.C_below HOL.out hbw)
 clear hW hcap hbw eW ecp egw kb
 refine (syndromes_at k _ _ _ _ a1 st _ HBL.out HW.out HCP.out HST.out).mono ?_
 rintro e w3 ⟨vs, rfl, ho, hb⟩
 obtain ⟨AS, cS, eS⟩ := Kd.R_slice ho
 subst eS
 have HOS := Aside0.mk (Kd.R_reads' ho).2.2
 have HCS := Aside0.mk (Kd.R_reads' ho).2.1
 have HW3 := Aside0.mk (Kd.C_below HW.out hb)
 have HOL3 := Aside0.mk (Kd.C_below HOL.out hb)
 have HB3 := Aside0.mk (HBB.out.trans (hb.mono HBB.out.size))
 clear ho hb HW HOL HBB
 go_wp2_with (go_at_call 57; refine (label_zero.calls k _ _ _ false _ HOS.out HCS.out HZ.out).mono ?_; rintro e w4 ⟨rfl, ⟨nz, rfl⟩⟩)
 refine (label_locator.calls k _ _ _ sl lc _ (Kd.C_drewN HOL3.out _) HCL.out (by rw [← HBL.out]; exact HLC.out)).mono ?_
 rintro e w5 ⟨vc, rfl, ho, hb⟩
 obtain ⟨AC, cC, eC⟩ := Kd.R_slice ho
 subst eC
 have HOC0 := Aside0.mk (Kd.R_reads' ho).2.2
 have HCC := Aside0.mk (Kd.R_reads' ho).2.1
 have HS5 := Aside0.mk (Kd.C_below (Kd.C_drewN HOS.out nz) hb)
 have HW5 := Aside0.mk (Kd.C_below (Kd.C_drewN HW3.out nz) hb)
 have HOL5 := Aside0.mk (Kd.C_below (Kd.C_drewN HOL3.out nz) hb)
 have HB5 := Aside0.mk ((pw_below_drewN HB3.out nz).trans (hb.mono (by simpa [World.drewN] using HB3.out.size)))
 clear ho hb HW3 HOL3 HB3 HOS
 go_wp2_with (go_at_call 59; refine (label_find.calls k _ _ st _ _ lc wh _ HS5.out HCS.out HOC0.out HCC.out HWH.out).mono ?_; rintro e w6 ⟨vf, rfl, ho, hb⟩; obtain ⟨AF, cF, eF⟩ := Kd.R_slice ho; subst eF; have HOF := Aside0.mk (Kd.R_reads' ho).2.2; have HCF := Aside0.mk (Kd.R_reads' ho).2.1; have HS6 := Aside0.mk (Kd.C_below HS5.out hb); have HW6 := Aside0.mk (Kd.C_below HW5.out hb); have HOL6 := Aside0.mk (Kd.C_below HOL5.out hb); have HB6 := Aside0.mk (HB5.out.trans (hb.mono HB5.out.size)); clear ho hb HS5 HW5 HOL5 HB5 HOC0)
 refine (repair_at k _ _ _ (bytesOf a0) _ _ st _ _ wh out _ HBL.out HW6.out HCP.out HS6.out HCS.out HOF.out HCF.out HRP.out).mono ?_
 rintro e w7 ⟨vr, rfl, ho, hb⟩
 obtain ⟨AR, cR, eR⟩ := Kd.R_slice ho
 subst eR
 have HOR := Aside0.mk (Kd.R_reads' ho).2.2
 have HOC := Aside0.mk (Kd.R_reads' ho).2.1
 have HW7 := Aside0.mk (Kd.C_below HW6.out hb)
 have HOL7 := Aside0.mk (Kd.C_below HOL6.out hb)
 have HB7 := Aside0.mk (HB6.out.trans (hb.mono HB6.out.size))
 clear ho hb HW6 HOL6 HB6 HS6 HOF
 go_wp2_with (fail)
 refine (changes_at _ _ _ (bytesOf a0) _ _ _ out _ _ sl ca cb _ HBL.out rfl HW7.out HCP.out HOR.out HOC.out HOL7.out HCL.out HCH.out).mono ?_
 rintro e w8 ⟨rfl, hb⟩
 have HO5 := Aside0.mk (Kd.C_below HOR.out hb)
 have HB5 := Aside0.mk (HB7.out.trans (hb.mono HB7.out.size))
 clear hb HB7 HOR
 go_wp2
 go_ret3
 exact ⟨rfl, HB5.out⟩
set_option maxHeartbeats 4000000 in
set_option maxRecDepth 100000 in
theorem dec_mend_bad (k : Nat) (a0 : ByteArray) (a1 : Int) (A2 : Option Addr) (c2 : Nat) (l2 : List Int) (sl : List Int) (w : World) (hr2 : Kd.C (Kd.int .i64) w A2 l2.length l2) (hc2 : l2.length ≤ c2) (hs : a0.size ≤ 100000) (st lc wh out : List Int) (ca cb : Int) (s2 : List Int) (hsp : label_spots.f l2 (a0.size : Int) = some (sl, true)) (hp : label_isParameters.f (a0.size : Int) a1 = some true) (ha0 : 0 ≤ a1) (ha1 : a1 ≤ 64) (hlen : (sl.length : Int) ≤ a1) (hst : label_syndromes.f k (bytesOf a0) a1 = some st) (hz : label_zero.f k st = some false) (hlc : label_locator.f k ((bytesOf a0).length : Int) sl = some lc) (hwh : label_find.f k st lc = some wh) (hrp : label_repair.f k (bytesOf a0) st wh = some out) (hch : label_changes.f (bytesOf a0) out sl = some (ca, cb)) (hb0 : 0 ≤ cb) (hb1 : cb ≤ 100000) (hol : (out.length : Int) ≤ 100000) (hop : 0 ≤ (out.length : Int) - a1) (hfar : ¬ 2 * cb + (sl.length : Int) > a1) (hs2 : label_syndromes.f k out a1 = some s2) (hz2 : label_zero.f k s2 = some false) :
  Calls Tryz.prog 28 #[.string a0, .int .i64 a1, .slice A2 l2.length c2] w fun e w' => e = .returned (.tuple #[.string ⟨#[]⟩, .int .i64 0, .int .i64 6]) ∧ Below w.heap.size w w' := by
 have HR2 := Aside0.mk hr2
 have HC2 := Aside0.mk hc2
 have HSZ := hid hs
 have hs1 : (a0.size : Int) ≤ 100000 := by omega
 clear hr2 hc2 hs
 have HSP := hid hsp
 have HP := hid hp
 have d1 : decide (a1 < (sl.length : Int)) = false := decide_eq_false (by omega)
 have HST := hid hst
 have HZ := hid hz
 have HLC := hid hlc
 have HWH := hid hwh
 have HRP := hid hrp
 have HCH := hid hch
 have d2 : decide (a1 < 2 * cb + (sl.length : Int)) = false := decide_eq_false (by omega)
 have HS2 := hid hs2
 have HZ2 := hid hz2
 clear hs2 hz2
 have hsl : (sl.length : Int) ≤ 64 := by omega
 have HBL := hid (bytesOf_length a0)
 have kb := fun W => print_bytes (P := Tryz.prog) 9 32 5 Tryz.underlying9 Tryz.underlying32 Tryz.underlying5 a0 W
 clear hsp hp hst hz hch hlen hfar hlc hwh hrp
 go_enter Tryz.func28, Tryz.ntmps28
 go_wp2_with (first | (go_at_call 55; refine (label_spots.calls A2 c2 l2 _ sl true _ HR2.out HC2.out HSP.out).mono ?_; rintro e w1 ⟨vl, rfl, ho, hb⟩; obtain ⟨AL, cL, eL⟩ := Kd.R_slice ho; subst eL; have HOL := Aside0.mk (Kd.R_reads' ho).2.2; have HCL := Aside0.mk (Kd.R_reads' ho).2.1; have HBB := Aside0.mk hb; clear ho hb) | (go_at_call 52; refine (label_isParameters.calls _ _ true _ HP.out).mono ?_; rintro e w2 ⟨rfl, ⟨nd, rfl⟩⟩))
 have hW : Kd.C (Kd.int .u8) (Lib.bytesWorld (w1.drewN nd) 5 a0) (some ⟨w1.heap.size, 0, none⟩) a0.size (bytesOf a0) := bytes_C (w1.drewN nd) a0 HSZ.out
 have hbw := bytes_below (pw_below_drewN (Below.refl w1.heap.size w1) nd) (by simp [World.drewN]) 5 a0
 have hcap := grownCap_ge (w1.drewN nd) a0.size 0 5
 obtain ⟨W, eW⟩ : ∃ W, W = Lib.bytesWorld (w1.drewN nd) 5 a0 := ⟨_, rfl⟩
 obtain ⟨cp, ecp⟩ : ∃ cp, cp = grownCap (w1.drewN nd) a0.size 0 5 := ⟨_, rfl⟩
 obtain ⟨gw, egw⟩ : ∃ gw, gw = w1.heap.size := ⟨_, rfl⟩
 (try simp only [← eW, ← ecp, ← egw])
 rw [← eW, ← egw] at hW
 rw [← eW] at hbw
 rw [← ecp] at hcap
 have HW := Aside0.mk hW
 have HCP := Aside0.mk hcap
 have HBB := Aside0.mk (HBB.out.trans (hbw.mono HBB.out.size))
 have HOL := Aside0.mk (Kd.C_below HOL.out hbw)
 clear hW hcap hbw eW ecp egw kb
 refine (syndromes_at k _ _ _ _ a1 st _ HBL.out HW.out HCP.out HST.out).mono ?_
 rintro e w3 ⟨vs, rfl, ho, hb⟩
 obtain ⟨AS, cS, eS⟩ := Kd.R_slice ho
 subst eS
 have HOS := Aside0.mk (Kd.R_reads' ho).2.2
 have HCS := Aside0.mk (Kd.R_reads' ho).2.1
 have HW3 := Aside0.mk (Kd.C_below HW.out hb)
 have HOL3 := Aside0.mk (Kd.C_below HOL.out hb)
 have HB3 := Aside0.mk (HBB.out.trans (hb.mono HBB.out.size))
 clear ho hb HW HOL HBB
 go_wp2_with (go_at_call 57; refine (label_zero.calls k _ _ _ false _ HOS.out HCS.out HZ.out).mono ?_; rintro e w4 ⟨rfl, ⟨nz, rfl⟩⟩)
 refine (label_locator.calls k _ _ _ sl lc _ (Kd.C_drewN HOL3.out _) HCL.out (by rw [← HBL.out]; exact HLC.out)).mono ?_
 rintro e w5 ⟨vc, rfl, ho, hb⟩
 obtain ⟨AC, cC, eC⟩ := Kd.R_slice ho
 subst eC
 have HOC0 := Aside0.mk (Kd.R_reads' ho).2.2
 have HCC := Aside0.mk (Kd.R_reads' ho).2.1
 have HS5 := Aside0.mk (Kd.C_below (Kd.C_drewN HOS.out nz) hb)
 have HW5 := Aside0.mk (Kd.C_below (Kd.C_drewN HW3.out nz) hb)
 have HOL5 := Aside0.mk (Kd.C_below (Kd.C_drewN HOL3.out nz) hb)
 have HB5 := Aside0.mk ((pw_below_drewN HB3.out nz).trans (hb.mono (by simpa [World.drewN] using HB3.out.size)))
 clear ho hb HW3 HOL3 HB3 HOS
 go_wp2_with (go_at_call 59; refine (label_find.calls k _ _ st _ _ lc wh _ HS5.out HCS.out HOC0.out HCC.out HWH.out).mono ?_; rintro e w6 ⟨vf, rfl, ho, hb⟩; obtain ⟨AF, cF, eF⟩ := Kd.R_slice ho; subst eF; have HOF := Aside0.mk (Kd.R_reads' ho).2.2; have HCF := Aside0.mk (Kd.R_reads' ho).2.1; have HS6 := Aside0.mk (Kd.C_below HS5.out hb); have HW6 := Aside0.mk (Kd.C_below HW5.out hb); have HOL6 := Aside0.mk (Kd.C_below HOL5.out hb); have HB6 := Aside0.mk (HB5.out.trans (hb.mono HB5.out.size)); clear ho hb HS5 HW5 HOL5 HB5 HOC0)
 refine (repair_at k _ _ _ (bytesOf a0) _ _ st _ _ wh out _ HBL.out HW6.out HCP.out HS6.out HCS.out HOF.out HCF.out HRP.out).mono ?_
 rintro e w7 ⟨vr, rfl, ho, hb⟩
 obtain ⟨AR, cR, eR⟩ := Kd.R_slice ho
 subst eR
 have HOR := Aside0.mk (Kd.R_reads' ho).2.2
 have HOC := Aside0.mk (Kd.R_reads' ho).2.1
 have HW7 := Aside0.mk (Kd.C_below HW6.out hb)
 have HOL7 := Aside0.mk (Kd.C_below HOL6.out hb)
 have HB7 := Aside0.mk (HB6.out.trans (hb.mono HB6.out.size))
 clear ho hb HW6 HOL6 HB6 HS6 HOF
 go_wp2_with (fail)
 refine (changes_at _ _ _ (bytesOf a0) _ _ _ out _ _ sl ca cb _ HBL.out rfl HW7.out HCP.out HOR.out HOC.out HOL7.out HCL.out HCH.out).mono ?_
 rintro e w8 ⟨rfl, hb⟩
 have HO5 := Aside0.mk (Kd.C_below HOR.out hb)
 have HB5 := Aside0.mk (HB7.out.trans (hb.mono HB7.out.size))
 clear hb HB7 HOR
 go_wp2_with (fail)
 refine (syndromes_at k _ _ _ _ a1 s2 _ rfl HO5.out HOC.out HS2.out).mono ?_
 rintro e w9 ⟨v2, rfl, ho, hb⟩
 obtain ⟨A9, c9, e9⟩ := Kd.R_slice ho
 subst e9
 have HO9 := Aside0.mk (Kd.R_reads' ho).2.2
 have HC9 := Aside0.mk (Kd.R_reads' ho).2.1
 have HX9 := Aside0.mk (Kd.C_below HO5.out hb)
 have HB9 := Aside0.mk (HB5.out.trans (hb.mono HB5.out.size))
 clear ho hb HO5 HB5
 go_wp2_with (go_at_call 57; refine (label_zero.calls k _ _ _ false _ HO9.out HC9.out HZ2.out).mono ?_; rintro e w4 ⟨rfl, ⟨ny, rfl⟩⟩)
 go_ret3
 exact ⟨rfl, pw_below_drewN HB9.out _⟩
set_option maxHeartbeats 4000000 in
set_option maxRecDepth 100000 in
theorem dec_mend_ok (k : Nat) (a0 : ByteArray) (a1 : Int) (A2 : Option Addr) (c2 : Nat) (l2 : List Int) (sl : List Int) (w : World) (hr2 : Kd.C (Kd.int .i64) w A2 l2.length l2) (hc2 : l2.length ≤ c2) (hs : a0.size ≤ 100000) (st lc wh out : List Int) (ca cb : Int) (s2 : List Int) (hsp : label_spots.f l2 (a0.size : Int) = some (sl, true)) (hp : label_isParameters.f (a0.size : Int) a1 = some true) (ha0 : 0 ≤ a1) (ha1 : a1 ≤ 64) (hlen : (sl.length : Int) ≤ a1) (hst : label_syndromes.f k (bytesOf a0) a1 = some st) (hz : label_zero.f k st = some false) (hlc : label_locator.f k ((bytesOf a0).length : Int) sl = some lc) (hwh : label_find.f k st lc = some wh) (hrp : label_repair.f k (bytesOf a0) st wh = some out) (hch : label_changes.f (bytesOf a0) out sl = some (ca, cb)) (hb0 : 0 ≤ cb) (hb1 : cb ≤ 100000) (hol : (out.length : Int) ≤ 100000) (hop : 0 ≤ (out.length : Int) - a1) (hfar : ¬ 2 * cb + (sl.length : Int) > a1) (hs2 : label_syndromes.f k out a1 = some s2) (hz2 : label_zero.f k s2 = some true) :
  Calls Tryz.prog 28 #[.string a0, .int .i64 a1, .slice A2 l2.length c2] w fun e w' => e = .returned (.tuple #[.string (strOfNums (out.take ((out.length : Int) - a1).toNat)), .int .i64 ca, .int .i64 0]) ∧ Below w.heap.size w w' := by
 have HR2 := Aside0.mk hr2
 have HC2 := Aside0.mk hc2
 have HSZ := hid hs
 have hs1 : (a0.size : Int) ≤ 100000 := by omega
 clear hr2 hc2 hs
 have HSP := hid hsp
 have HP := hid hp
 have d1 : decide (a1 < (sl.length : Int)) = false := decide_eq_false (by omega)
 have HST := hid hst
 have HZ := hid hz
 have HLC := hid hlc
 have HWH := hid hwh
 have HRP := hid hrp
 have HCH := hid hch
 have d2 : decide (a1 < 2 * cb + (sl.length : Int)) = false := decide_eq_false (by omega)
 have HS2 := hid hs2
 have HZ2 := hid hz2
 clear hs2 hz2
 have hsl : (sl.length : Int) ≤ 64 := by omega
 have HBL := hid (bytesOf_length a0)
 have kb := fun W => print_bytes (P := Tryz.prog) 9 32 5 Tryz.underlying9 Tryz.underlying32 Tryz.underlying5 a0 W
 clear hsp hp hst hz hch hlen hfar hlc hwh hrp
 go_enter Tryz.func28, Tryz.ntmps28
 go_wp2_with (first | (go_at_call 55; refine (label_spots.calls A2 c2 l2 _ sl true _ HR2.out HC2.out HSP.out).mono ?_; rintro e w1 ⟨vl, rfl, ho, hb⟩; obtain ⟨AL, cL, eL⟩ := Kd.R_slice ho; subst eL; have HOL := Aside0.mk (Kd.R_reads' ho).2.2; have HCL := Aside0.mk (Kd.R_reads' ho).2.1; have HBB := Aside0.mk hb; clear ho hb) | (go_at_call 52; refine (label_isParameters.calls _ _ true _ HP.out).mono ?_; rintro e w2 ⟨rfl, ⟨nd, rfl⟩⟩))
 have hW : Kd.C (Kd.int .u8) (Lib.bytesWorld (w1.drewN nd) 5 a0) (some ⟨w1.heap.size, 0, none⟩) a0.size (bytesOf a0) := bytes_C (w1.drewN nd) a0 HSZ.out
 have hbw := bytes_below (pw_below_drewN (Below.refl w1.heap.size w1) nd) (by simp [World.drewN]) 5 a0
 have hcap := grownCap_ge (w1.drewN nd) a0.size 0 5
 obtain ⟨W, eW⟩ : ∃ W, W = Lib.bytesWorld (w1.drewN nd) 5 a0 := ⟨_, rfl⟩
 obtain ⟨cp, ecp⟩ : ∃ cp, cp = grownCap (w1.drewN nd) a0.size 0 5 := ⟨_, rfl⟩
 obtain ⟨gw, egw⟩ : ∃ gw, gw = w1.heap.size := ⟨_, rfl⟩
 (try simp only [← eW, ← ecp, ← egw])
 rw [← eW, ← egw] at hW
 rw [← eW] at hbw
 rw [← ecp] at hcap
 have HW := Aside0.mk hW
 have HCP := Aside0.mk hcap
 have HBB := Aside0.mk (HBB.out.trans (hbw.mono HBB.out.size))
 have HOL := Aside0.mk (Kd.C_below HOL.out hbw)
 clear hW hcap hbw eW ecp egw kb
 refine (syndromes_at k _ _ _ _ a1 st _ HBL.out HW.out HCP.out HST.out).mono ?_
 rintro e w3 ⟨vs, rfl, ho, hb⟩
 obtain ⟨AS, cS, eS⟩ := Kd.R_slice ho
 subst eS
 have HOS := Aside0.mk (Kd.R_reads' ho).2.2
 have HCS := Aside0.mk (Kd.R_reads' ho).2.1
 have HW3 := Aside0.mk (Kd.C_below HW.out hb)
 have HOL3 := Aside0.mk (Kd.C_below HOL.out hb)
 have HB3 := Aside0.mk (HBB.out.trans (hb.mono HBB.out.size))
 clear ho hb HW HOL HBB
 go_wp2_with (go_at_call 57; refine (label_zero.calls k _ _ _ false _ HOS.out HCS.out HZ.out).mono ?_; rintro e w4 ⟨rfl, ⟨nz, rfl⟩⟩)
 refine (label_locator.calls k _ _ _ sl lc _ (Kd.C_drewN HOL3.out _) HCL.out (by rw [← HBL.out]; exact HLC.out)).mono ?_
 rintro e w5 ⟨vc, rfl, ho, hb⟩
 obtain ⟨AC, cC, eC⟩ := Kd.R_slice ho
 subst eC
 have HOC0 := Aside0.mk (Kd.R_reads' ho).2.2
 have HCC := Aside0.mk (Kd.R_reads' ho).2.1
 have HS5 := Aside0.mk (Kd.C_below (Kd.C_drewN HOS.out nz) hb)
 have HW5 := Aside0.mk (Kd.C_below (Kd.C_drewN HW3.out nz) hb)
 have HOL5 := Aside0.mk (Kd.C_below (Kd.C_drewN HOL3.out nz) hb)
 have HB5 := Aside0.mk ((pw_below_drewN HB3.out nz).trans (hb.mono (by simpa [World.drewN] using HB3.out.size)))
 clear ho hb HW3 HOL3 HB3 HOS
 go_wp2_with (go_at_call 59; refine (label_find.calls k _ _ st _ _ lc wh _ HS5.out HCS.out HOC0.out HCC.out HWH.out).mono ?_; rintro e w6 ⟨vf, rfl, ho, hb⟩; obtain ⟨AF, cF, eF⟩ := Kd.R_slice ho; subst eF; have HOF := Aside0.mk (Kd.R_reads' ho).2.2; have HCF := Aside0.mk (Kd.R_reads' ho).2.1; have HS6 := Aside0.mk (Kd.C_below HS5.out hb); have HW6 := Aside0.mk (Kd.C_below HW5.out hb); have HOL6 := Aside0.mk (Kd.C_below HOL5.out hb); have HB6 := Aside0.mk (HB5.out.trans (hb.mono HB5.out.size)); clear ho hb HS5 HW5 HOL5 HB5 HOC0)
 refine (repair_at k _ _ _ (bytesOf a0) _ _ st _ _ wh out _ HBL.out HW6.out HCP.out HS6.out HCS.out HOF.out HCF.out HRP.out).mono ?_
 rintro e w7 ⟨vr, rfl, ho, hb⟩
 obtain ⟨AR, cR, eR⟩ := Kd.R_slice ho
 subst eR
 have HOR := Aside0.mk (Kd.R_reads' ho).2.2
 have HOC := Aside0.mk (Kd.R_reads' ho).2.1
 have HW7 := Aside0.mk (Kd.C_below HW6.out hb)
 have HOL7 := Aside0.mk (Kd.C_below HOL6.out hb)
 have HB7 := Aside0.mk (HB6.out.trans (hb.mono HB6.out.size))
 clear ho hb HW6 HOL6 HB6 HS6 HOF
 go_wp2_with (fail)
 refine (changes_at _ _ _ (bytesOf a0) _ _ _ out _ _ sl ca cb _ HBL.out rfl HW7.out HCP.out HOR.out HOC.out HOL7.out HCL.out HCH.out).mono ?_
 rintro e w8 ⟨rfl, hb⟩
 have HO5 := Aside0.mk (Kd.C_below HOR.out hb)
 have HB5 := Aside0.mk (HB7.out.trans (hb.mono HB7.out.size))
 clear hb HB7 HOR
 go_wp2_with (fail)
 refine (syndromes_at k _ _ _ _ a1 s2 _ rfl HO5.out HOC.out HS2.out).mono ?_
 rintro e w9 ⟨v2, rfl, ho, hb⟩
 obtain ⟨A9, c9, e9⟩ := Kd.R_slice ho
 subst e9
 have HO9 := Aside0.mk (Kd.R_reads' ho).2.2
 have HC9 := Aside0.mk (Kd.R_reads' ho).2.1
 have HX9 := Aside0.mk (Kd.C_below HO5.out hb)
 have HB9 := Aside0.mk (HB5.out.trans (hb.mono HB5.out.size))
 clear ho hb HO5 HB5
 go_wp2_with (fail)
 refine (label_zero.calls k _ _ _ true _ HO9.out HC9.out HZ2.out).mono ?_
 rintro e w4 ⟨rfl, ⟨ny, rfl⟩⟩
 obtain ⟨i0, hi0, _, hsz, _⟩ := info_parts Tryz.infoU8
 have hnn : out.length = out.length := rfl
 have hcut := cut_to (P := Tryz.prog) 32 5 .i64 Tryz.underlying32 hi0 AR out.length cR ((out.length : Int) - a1) (by omega) (by omega) HOC.out
 have hr := Kd.C_take (m := ((out.length : Int) - a1).toNat) (by rw [hnn]; exact Kd.C_drewN HX9.out ny) (by omega)
 obtain ⟨m1, hm1⟩ : ∃ m1 : Nat, m1 = ((out.length : Int) - a1).toNat := ⟨_, rfl⟩
 rw [← hm1] at hcut hr
 have hlt : (out.take m1).length = m1 := by rw [List.length_take]; omega
 rw [hlt] at hr
 have hcv := Kd.C_string (P := Tryz.prog) (c := cR) Tryz.underlying32 Tryz.underlying5 Tryz.underlying9 hr
 have HM1 := hid (show m1 = ((out.length : Int) - a1).toNat by rw [hm1, hnn])
 have b1 : (0 : Int) ≤ (out.length : Int) - a1 := by omega
 have b2 : (out.length : Int) ≤ 100000 := by omega
 clear hr hlt hm1 hnn hi0 hsz
 go_wp2
 go_ret3
 exact ⟨by rw [← HM1.out]; rfl, pw_below_drewN HB9.out _⟩
theorem label_Decode.calls (k : Nat) (a0 : ByteArray) (a1 : Int) (A2 : Option Addr) (c2 : Nat) (l2 : List Int) (r1 : ByteArray) (r2 r3 : Int) (w : World) (hr2 : Kd.C (Kd.int .i64) w A2 l2.length l2) (hc2 : l2.length ≤ c2) (h : label_Decode.f k a0 a1 l2 = some (r1, r2, r3)) :
  Calls Tryz.prog 28 #[.string a0, .int .i64 a1, .slice A2 l2.length c2] w fun e w' => e = .returned (.tuple #[.string r1, .int .i64 r2, .int .i64 r3]) ∧ Below w.heap.size w w' := by
 unfold label_Decode.f at h
 by_cases hs : a0.size ≤ 100000
 ·rw [if_pos hs] at h
  obtain ⟨⟨sl, bs⟩, hsp, h⟩ := Option.bind_eq_some_iff.mp h
  obtain ⟨t, hp, h⟩ := Option.bind_eq_some_iff.mp h
  simp only at h
  cases t with
  | false =>
   rw [if_pos rfl] at h
   cases h
   exact dec_par k a0 a1 A2 c2 l2 sl w hr2 hc2 hs bs hsp hp
  | true =>
   rw [if_neg (by simp)] at h
   cases bs with
   | false =>
    rw [if_pos rfl] at h
    cases h
    exact dec_spot k a0 a1 A2 c2 l2 sl w hr2 hc2 hs true hsp hp
   | true =>
    rw [if_neg (by simp)] at h
    by_cases ha : 0 ≤ a1 ∧ a1 ≤ 64
    ·rw [if_pos ha] at h
     by_cases hlen : (sl.length : Int) > a1
     ·rw [if_pos hlen] at h
      cases h
      exact dec_many k a0 a1 A2 c2 l2 sl w hr2 hc2 hs hsp hp hlen
     ·rw [if_neg hlen] at h
      obtain ⟨⟨z, out⟩, ho, h⟩ := Option.bind_eq_some_iff.mp h
      simp only at h
      unfold decEnd at h
      obtain ⟨⟨ca, cb⟩, hch, h⟩ := Option.bind_eq_some_iff.mp h
      simp only at h
      by_cases hc : 0 ≤ cb ∧ cb ≤ 100000 ∧ (sl.length : Int) ≤ 255 ∧ 0 ≤ (out.length : Int) - a1 ∧ (out.length : Int) ≤ 100000
      ·rw [if_pos hc] at h
       obtain ⟨hc1, hc2', hc3, hc4, hc5⟩ := hc
       unfold decOut at ho
       obtain ⟨st, hst, ho⟩ := Option.bind_eq_some_iff.mp ho
       obtain ⟨z1, hz, ho⟩ := Option.bind_eq_some_iff.mp ho
       cases z1 with
       | true =>
        rw [if_pos rfl] at ho
        cases ho
        by_cases hf : 2 * cb + (sl.length : Int) > a1
        ·rw [if_pos hf] at h
         cases h
         exact dec_clean_far k a0 a1 A2 c2 l2 sl w hr2 hc2 hs st [] [] _ _ cb [] hsp hp ha.1 ha.2 (by omega) hst hz rfl hch hc1 hc2' hc5 hc4 hf
        ·rw [if_neg hf] at h
         obtain ⟨s2, hs2, h⟩ := Option.bind_eq_some_iff.mp h
         obtain ⟨z2, hz2, h⟩ := Option.bind_eq_some_iff.mp h
         cases z2 with
         | true =>
          rw [if_pos rfl] at h
          cases h
          exact dec_clean_ok k a0 a1 A2 c2 l2 sl w hr2 hc2 hs st [] [] _ _ cb s2 hsp hp ha.1 ha.2 (by omega) hst hz rfl hch hc1 hc2' hc5 hc4 hf hs2 hz2
         | false =>
          rw [if_neg (by simp)] at h
          cases h
          exact dec_clean_bad k a0 a1 A2 c2 l2 sl w hr2 hc2 hs st [] [] _ _ cb s2 hsp hp ha.1 ha.2 (by omega) hst hz rfl hch hc1 hc2' hc5 hc4 hf hs2 hz2
       | false =>
        rw [if_neg (by simp)] at ho
        obtain ⟨lc, hlc, ho⟩ := Option.bind_eq_some_iff.mp ho
        obtain ⟨wh, hwh, ho⟩ := Option.bind_eq_some_iff.mp ho
        obtain ⟨rp, hrp, ho⟩ := Option.bind_eq_some_iff.mp ho
        cases ho
        by_cases hf : 2 * cb + (sl.length : Int) > a1
        ·rw [if_pos hf] at h
         cases h
         exact dec_mend_far k a0 a1 A2 c2 l2 sl w hr2 hc2 hs st lc wh _ _ cb [] hsp hp ha.1 ha.2 (by omega) hst hz hlc hwh hrp hch hc1 hc2' hc5 hc4 hf
        ·rw [if_neg hf] at h
         obtain ⟨s2, hs2, h⟩ := Option.bind_eq_some_iff.mp h
         obtain ⟨z2, hz2, h⟩ := Option.bind_eq_some_iff.mp h
         cases z2 with
         | true =>
          rw [if_pos rfl] at h
          cases h
          exact dec_mend_ok k a0 a1 A2 c2 l2 sl w hr2 hc2 hs st lc wh _ _ cb s2 hsp hp ha.1 ha.2 (by omega) hst hz hlc hwh hrp hch hc1 hc2' hc5 hc4 hf hs2 hz2
         | false =>
          rw [if_neg (by simp)] at h
          cases h
          exact dec_mend_bad k a0 a1 A2 c2 l2 sl w hr2 hc2 hs st lc wh _ _ cb s2 hsp hp ha.1 ha.2 (by omega) hst hz hlc hwh hrp hch hc1 hc2' hc5 hc4 hf hs2 hz2
      ·rw [if_neg hc] at h; exact absurd h (by simp)
    ·rw [if_neg ha] at h; exact absurd h (by simp)
 ·rw [if_neg hs] at h; exact absurd h (by simp)
end Go.Proofs.YtiioklboaookiaaGreatDoor.Q
namespace Go.Proofs.YtiioklboaookiaaGreatDoor.Rs
open GF
abbrev PS := Nat → GF
def tl (f : PS) : PS := fun i => f (i + 1)
def cv : Nat → PS → PS → GF
 | 0, f, g => f 0 * g 0
 | k + 1, f, g => f 0 * g (k + 1) + cv k (tl f) g
theorem cv_congr (k : Nat) : ∀ (f f' g g' : PS), (∀ i, i ≤ k → f i = f' i) → (∀ i, i ≤ k → g i = g' i) → cv k f g = cv k f' g' := by
 induction k with
 | zero => intro f f' g g' hf hg; simp only [cv]; rw [hf 0 (by omega), hg 0 (by omega)]
 | succ k ih =>
  intro f f' g g' hf hg
  simp only [cv]
  rw [hf 0 (by omega), hg (k + 1) (by omega), ih (tl f) (tl f') g g' (fun i hi => hf (i + 1) (by omega)) (fun i hi => hg i (by omega))]
theorem cv_succ' (k : Nat) : ∀ (f g : PS), cv (k + 1) f g = cv k f (tl g) + f (k + 1) * g 0 := by
 induction k with
 | zero => intro f g; rfl
 | succ k ih =>
  intro f g
  rw [cv, ih (tl f) g]
  show _ = (f 0 * tl g (k + 1) + cv k (tl f) (tl g)) + _
  rw [add_assoc]; rfl
theorem cv_comm (k : Nat) : ∀ (f g : PS), cv k f g = cv k g f := by
 induction k with
 | zero => intro f g; exact mul_comm _ _
 | succ k ih => intro f g; rw [cv, cv_succ', ih, add_comm, mul_comm]
theorem cv_add_left (k : Nat) : ∀ (f f' g : PS), cv k (fun i => f i + f' i) g = cv k f g + cv k f' g := by
 induction k with
 | zero => intro f f' g; exact add_mul _ _ _
 | succ k ih =>
  intro f f' g
  simp only [cv]
  have := ih (tl f) (tl f') g
  rw [show tl (fun i => f i + f' i) = fun i => tl f i + tl f' i from rfl, this, add_mul]
  ac_rfl
theorem cv_smul_left (k : Nat) (c : GF) : ∀ (f g : PS), cv k (fun i => c * f i) g = c * cv k f g := by
 induction k with
 | zero => intro f g; exact mul_assoc _ _ _
 | succ k ih =>
  intro f g
  simp only [cv]
  rw [show tl (fun i => c * f i) = fun i => c * tl f i from rfl, ih (tl f) g, mul_add, mul_assoc]
theorem cv_add_right (k : Nat) (f g g' : PS) : cv k f (fun i => g i + g' i) = cv k f g + cv k f g' := by
 rw [cv_comm, cv_add_left, cv_comm k g, cv_comm k g']
theorem cv_smul_right (k : Nat) (c : GF) (f g : PS) : cv k f (fun i => c * g i) = c * cv k f g := by
 rw [cv_comm, cv_smul_left, cv_comm k g]
theorem cv_zero_left (k : Nat) (g : PS) : cv k (fun _ => 0) g = 0 := by
 induction k with
 | zero => exact zero_mul _
 | succ k ih => simp only [cv]; rw [zero_mul, zero_add]; exact ih
theorem cv_assoc (k : Nat) : ∀ (f g h : PS), cv k (fun i => cv i f g) h = cv k f (fun i => cv i g h) := by
 induction k with
 | zero => intro f g h; exact mul_assoc _ _ _
 | succ k ih =>
  intro f g h
  have e : tl (fun i => cv i f g) = fun i => f 0 * tl g i + cv i (tl f) g := rfl
  rw [cv, e, cv_add_left, cv_smul_left, ih, cv]
  show f 0 * g 0 * h (k + 1) + (f 0 * cv k (tl g) h + _) = f 0 * (g 0 * h (k + 1) + cv k (tl g) h) + _
  rw [mul_add, mul_assoc, add_assoc]
theorem cv_left_comm (k : Nat) (f g h : PS) : cv k f (fun i => cv i g h) = cv k g (fun i => cv i f h) := by
 rw [← cv_assoc, ← cv_assoc]
 exact cv_congr k _ _ _ _ (fun i _ => cv_comm i f g) (fun _ _ => rfl)
theorem cv_none (k : Nat) : ∀ (f h : PS), (∀ i, i ≤ k → f i = 0 ∨ h (k - i) = 0) → cv k f h = 0 := by
 induction k with
 | zero =>
  intro f h hz
  rcases hz 0 (by omega) with e | e
  ·simp only [cv]; rw [e, zero_mul]
  ·simp only [cv]; rw [show h 0 = 0 from e, mul_zero]
 | succ k ih =>
  intro f h hz
  simp only [cv]
  rw [ih (tl f) h (fun i hi => by
   rcases hz (i + 1) (by omega) with e | e
   ·exact .inl e
   ·rw [show k + 1 - (i + 1) = k - i from by omega] at e; exact .inr e), add_zero]
  rcases hz 0 (by omega) with e | e
  ·rw [e, zero_mul]
  ·rw [show h (k + 1) = 0 from e, mul_zero]
theorem cv_first (k : Nat) (f h : PS) (hz : ∀ i, 1 ≤ i → i ≤ k → f i = 0 ∨ h (k - i) = 0) : cv k f h = f 0 * h k := by
 cases k with
 | zero => rfl
 | succ k =>
  simp only [cv]
  rw [cv_none k (tl f) h (fun i hi => by
   rcases hz (i + 1) (by omega) (by omega) with e | e
   ·exact .inl e
   ·rw [show k + 1 - (i + 1) = k - i from by omega] at e; exact .inr e), add_zero]
theorem cv_later (g : Nat) : ∀ (k : Nat) (f h : PS), (∀ i, k < i → f i = 0) → cv (k + g) f h = cv k f (fun i => h (i + g)) := by
 intro k
 induction k with
 | zero =>
  intro f h hz
  rw [cv_first (0 + g) f h (fun i h1 _ => .inl (hz i (by omega)))]; rfl
 | succ k ih =>
  intro f h hz
  rw [show k + 1 + g = (k + g) + 1 from by omega, cv, cv, ih (tl f) h (fun i hi => hz (i + 1) (by omega))]
  rw [show k + g + 1 = k + 1 + g from by omega]
def sh (f : PS) : PS
 | 0 => 0
 | k + 1 => f k
theorem cv_sh (k : Nat) (f g : PS) : cv k (sh f) g = sh (fun i => cv i f g) k := by
 cases k with
 | zero => exact zero_mul _
 | succ k => show 0 * g (k + 1) + cv k f g = cv k f g; rw [zero_mul, zero_add]
def st (X : GF) (f : PS) : PS := fun k => f k + X * sh f k
theorem cv_st (k : Nat) (X : GF) (f g : PS) : cv k (st X f) g = st X (fun i => cv i f g) k := by
 unfold st; rw [cv_add_left, cv_smul_left, cv_sh]
theorem st_congr {X : GF} {f g : PS} (k : Nat) (h : ∀ i, i ≤ k → f i = g i) : st X f k = st X g k := by
 unfold st
 cases k with
 | zero => rw [h 0 (by omega)]; rfl
 | succ k => rw [h (k + 1) (by omega)]; show _ + X * f k = _ + X * g k; rw [h k (by omega)]
theorem cv_st' (k : Nat) (X : GF) (f g : PS) : cv k f (st X g) = st X (fun i => cv i f g) k := by
 rw [cv_comm, cv_st]; exact st_congr k (fun i _ => cv_comm i g f)
def geo (X : GF) : PS := fun k => pow X k
theorem pow_succ (X : GF) (k : Nat) : pow X (k + 1) = X * pow X k := mul_comm _ _
theorem pow_add (X : GF) (j k : Nat) : pow X (j + k) = pow X j * pow X k := by
 induction k with
 | zero => exact (mul_one _).symm
 | succ k ih => show pow X (j + k) * X = pow X j * (pow X k * X); rw [ih, mul_assoc]
theorem tl_geo (X : GF) : tl (geo X) = fun i => X * geo X i := by funext i; exact pow_succ X i
def dl : PS
 | 0 => 1
 | _ + 1 => 0
theorem cv_dl (k : Nat) (g : PS) : cv k dl g = g k := by
 rw [cv_first k dl g (fun i h _ => .inl (by obtain ⟨j, rfl⟩ : ∃ j, i = j + 1 := ⟨i - 1, by omega⟩; rfl))]
 exact one_mul _
theorem st_geo (X : GF) : st X (geo X) = dl := by
 funext k
 cases k with
 | zero => show 1 + X * 0 = 1; rw [mul_zero, add_zero]
 | succ k => show pow X (k + 1) + X * pow X k = 0; rw [pow_succ, add_self]
theorem st_cv_geo (X : GF) (c : PS) (k : Nat) : st X (fun i => cv i c (geo X)) k = c k := by
 rw [← cv_st', st_geo, cv_comm, cv_dl]
theorem cv_geo_succ (c : PS) (X : GF) (k : Nat) : cv (k + 1) c (geo X) = X * cv k c (geo X) + c (k + 1) := by
 rw [cv_succ', tl_geo, cv_smul_right]; show _ + c (k + 1) * 1 = _; rw [mul_one]
theorem cv_geo_more (c : PS) (X : GF) (l : Nat) (h : ∀ k, l < k → c k = 0) (t : Nat) : cv (l + t) c (geo X) = pow X t * cv l c (geo X) := by
 induction t with
 | zero => exact (one_mul _).symm
 | succ t ih => rw [show l + (t + 1) = (l + t) + 1 from rfl, cv_geo_succ, h _ (by omega), add_zero, ih, pow_succ, mul_assoc]
def loc : List GF → PS
 | [] => dl
 | X :: L => st X (loc L)
theorem st_zero (X : GF) (f : PS) : st X f 0 = f 0 := by show f 0 + X * 0 = f 0; rw [mul_zero, add_zero]
theorem loc_zero (L : List GF) : loc L 0 = 1 := by
 induction L with
 | nil => rfl
 | cons X L ih => show st X (loc L) 0 = 1; rw [st_zero, ih]
theorem st_deg {X : GF} {f : PS} {n : Nat} (h : ∀ k, n ≤ k → f k = 0) : ∀ k, n + 1 ≤ k → st X f k = 0 := by
 intro k hk
 obtain ⟨j, rfl⟩ : ∃ j, k = j + 1 := ⟨k - 1, by omega⟩
 show f (j + 1) + X * f j = 0
 rw [h _ (by omega), h _ (by omega), mul_zero, add_zero]
theorem loc_deg (L : List GF) : ∀ k, L.length + 1 ≤ k → loc L k = 0 := by
 induction L with
 | nil => intro k hk; obtain ⟨j, rfl⟩ : ∃ j, k = j + 1 := ⟨k - 1, by simp at hk; omega⟩; rfl
 | cons X L ih => exact st_deg ih
abbrev Sp := List (GF × GF)
def ps : Sp → PS
 | [] => fun _ => 0
 | (X, e) :: T => fun k => e * pow X k + ps T k
def om : Sp → PS
 | [] => fun _ => 0
 | (X, e) :: T => fun k => e * loc (T.map Prod.fst) k + st X (om T) k
theorem cv_loc_ps (T : Sp) : ∀ k, cv k (loc (T.map Prod.fst)) (ps T) = om T k := by
 induction T with
 | nil => intro k; rw [cv_comm]; exact cv_zero_left _ _
 | cons Xe T ih =>
  obtain ⟨X, e⟩ := Xe
  intro k
  show cv k (st X (loc (T.map Prod.fst))) (fun k => e * pow X k + ps T k) = e * loc (T.map Prod.fst) k + st X (om T) k
  rw [cv_add_right, cv_smul_right]
  rw [show X.pow = geo X from rfl]
  rw [cv_st k X _ (geo X), ← cv_st', st_geo, cv_comm k _ dl, cv_dl, cv_st]
  rw [show (fun i => cv i (loc (T.map Prod.fst)) (ps T)) = om T from funext ih]
theorem om_deg (T : Sp) : ∀ k, T.length ≤ k → om T k = 0 := by
 induction T with
 | nil => intro k _; rfl
 | cons Xe T ih =>
  obtain ⟨X, e⟩ := Xe
  intro k hk
  show e * loc (T.map Prod.fst) k + st X (om T) k = 0
  rw [loc_deg _ _ (by simpa using hk), st_deg ih _ (by simpa using hk), mul_zero, add_zero]
def ev : Nat → PS → GF → GF
 | 0, _, _ => 0
 | n + 1, f, x => f 0 + x * ev n (tl f) x
theorem ev_congr (n : Nat) (x : GF) : ∀ (f g : PS), (∀ i, i < n → f i = g i) → ev n f x = ev n g x := by
 induction n with
 | zero => intro f g _; rfl
 | succ n ih => intro f g h; simp only [ev]; rw [h 0 (by omega), ih (tl f) (tl g) (fun i hi => h (i + 1) (by omega))]
theorem ev_add (n : Nat) (x : GF) : ∀ (f g : PS), ev n (fun i => f i + g i) x = ev n f x + ev n g x := by
 induction n with
 | zero => intro f g; exact (add_zero _).symm
 | succ n ih =>
  intro f g; simp only [ev]
  rw [show tl (fun i => f i + g i) = fun i => tl f i + tl g i from rfl, ih, mul_add]; ac_rfl
theorem ev_smul (n : Nat) (x c : GF) : ∀ (f : PS), ev n (fun i => c * f i) x = c * ev n f x := by
 induction n with
 | zero => intro f; exact (mul_zero _).symm
 | succ n ih =>
  intro f; simp only [ev]
  rw [show tl (fun i => c * f i) = fun i => c * tl f i from rfl, ih, mul_add, mul_left_comm]
theorem ev_sh (n : Nat) (x : GF) (f : PS) : ev (n + 1) (sh f) x = x * ev n f x := by
 show 0 + x * ev n (tl (sh f)) x = _; rw [zero_add]; rfl
theorem ev_none (n : Nat) (x : GF) : ∀ (f : PS), (∀ i, f i = 0) → ev n f x = 0 := by
 induction n with
 | zero => intro f _; rfl
 | succ n ih => intro f h; simp only [ev]; rw [h 0, ih (tl f) (fun i => h (i + 1)), mul_zero, add_zero]
theorem ev_more (m : Nat) (x : GF) : ∀ (n : Nat) (f : PS), (∀ i, n ≤ i → f i = 0) → n ≤ m → ev m f x = ev n f x := by
 induction m with
 | zero => intro n f _ hn; obtain rfl : n = 0 := (by omega); rfl
 | succ m ih =>
  intro n f h hn
  cases n with
  | zero => rw [ev_none _ _ _ (fun i => h i (by omega))]; rfl
  | succ n => simp only [ev]; rw [ih n (tl f) (fun i hi => h (i + 1) (by omega)) (by omega)]
theorem ev_st (n : Nat) (X x : GF) (f : PS) (h : ∀ i, n ≤ i → f i = 0) : ev (n + 1) (st X f) x = (1 + X * x) * ev n f x := by
 unfold st
 rw [ev_add, ev_smul, ev_sh, ev_more (n + 1) x n f h (by omega), add_mul, one_mul, mul_assoc]
theorem ev_loc (L : List GF) : ∀ (n : Nat) (x : GF), L.length + 1 ≤ n → (ev n (loc L) x = 0 ↔ ∃ X, X ∈ L ∧ X * x = 1) := by
 induction L with
 | nil =>
  intro n x hn
  rw [ev_more n x 1 (loc []) (loc_deg []) hn]
  show (1 + x * 0 = 0 ↔ _)
  rw [mul_zero, add_zero]
  constructor
  ·intro h; exact absurd h one_ne
  ·rintro ⟨X, h, _⟩; simp at h
 | cons X L ih =>
  intro n x hn
  rw [ev_more n x (L.length + 2) _ (loc_deg (X :: L)) (by simpa using hn)]
  show ev (L.length + 1 + 1) (st X (loc L)) x = 0 ↔ _
  rw [ev_st _ _ _ _ (loc_deg L)]
  constructor
  ·intro h
   by_cases hX : 1 + X * x = 0
   ·exact ⟨X, by simp, (add_eq_zero hX).symm⟩
   ·have := eq_zero_of_mul h hX
    obtain ⟨Y, h1, h2⟩ := (ih (L.length + 1) x (Nat.le_refl _)).1 this
    exact ⟨Y, by simp [h1], h2⟩
  ·rintro ⟨Y, h1, h2⟩
   rcases List.mem_cons.1 h1 with rfl | h1
   ·rw [h2, add_self, zero_mul]
   ·rw [(ih (L.length + 1) x (Nat.le_refl _)).2 ⟨Y, h1, h2⟩, mul_zero]
def dv (f : PS) : PS := fun k => if k % 2 = 0 then f (k + 1) else 0
theorem dv_st (X : GF) (f : PS) (k : Nat) : dv (st X f) k = X * f k + st X (dv f) k := by
 unfold dv st
 cases k with
 | zero => show f 1 + X * f 0 = X * f 0 + (f 1 + X * 0); rw [mul_zero, add_zero, add_comm]
 | succ k =>
  show (if (k + 1) % 2 = 0 then f (k + 2) + X * f (k + 1) else 0) = X * f (k + 1) + ((if (k + 1) % 2 = 0 then f (k + 2) else 0) + X * (if k % 2 = 0 then f (k + 1) else 0))
  by_cases h : (k + 1) % 2 = 0
  ·rw [if_pos h, if_pos h, if_neg (by omega), mul_zero, add_zero, add_comm]
  ·rw [if_neg h, if_neg h, if_pos (by omega), zero_add, add_self]
theorem dv_deg {f : PS} {n : Nat} (h : ∀ k, n + 1 ≤ k → f k = 0) : ∀ k, n ≤ k → dv f k = 0 := by
 intro k hk; unfold dv; split
 ·exact h _ (by omega)
 ·rfl
theorem forney (T : Sp) : ∀ (X e x : GF), (T.map Prod.fst).Nodup → (X, e) ∈ T → X * x = 1 →
  X * ev T.length (om T) x = e * ev T.length (dv (loc (T.map Prod.fst))) x ∧ ev T.length (dv (loc (T.map Prod.fst))) x ≠ 0 := by
 induction T with
 | nil => intro X e x _ h; simp at h
 | cons Yf T ih =>
  obtain ⟨Y, f⟩ := Yf
  intro X e x hn hm hx
  have hn' : (T.map Prod.fst).Nodup := (List.nodup_cons.1 hn).2
  have hY : Y ∉ T.map Prod.fst := (List.nodup_cons.1 hn).1
  have ld : ∀ k, T.length + 1 ≤ k → loc (T.map Prod.fst) k = 0 := fun k hk => loc_deg _ k (by simpa using hk)
  have E1 : ev (T.length + 1) (om ((Y, f) :: T)) x = f * ev (T.length + 1) (loc (T.map Prod.fst)) x + (1 + Y * x) * ev T.length (om T) x := by
   show ev (T.length + 1) (fun k => f * loc (T.map Prod.fst) k + st Y (om T) k) x = _
   rw [ev_add, ev_smul, ev_st _ _ _ _ (om_deg T)]
  have E2 : ev (T.length + 1) (dv (loc (((Y, f) :: T).map Prod.fst))) x = Y * ev (T.length + 1) (loc (T.map Prod.fst)) x + (1 + Y * x) * ev T.length (dv (loc (T.map Prod.fst))) x := by
   show ev (T.length + 1) (dv (st Y (loc (T.map Prod.fst)))) x = _
   rw [show dv (st Y (loc (T.map Prod.fst))) = fun k => Y * loc (T.map Prod.fst) k + st Y (dv (loc (T.map Prod.fst))) k from funext (dv_st Y _), ev_add, ev_smul, ev_st _ _ _ _ (dv_deg ld)]
  show X * ev (T.length + 1) (om ((Y, f) :: T)) x = e * ev (T.length + 1) _ x ∧ ev (T.length + 1) _ x ≠ 0
  rw [E1, E2]
  have xn : x ≠ 0 := fun h => by rw [h, mul_zero] at hx; exact one_ne hx.symm
  rcases List.mem_cons.1 hm with h | h
  ·obtain ⟨rfl, rfl⟩ : X = Y ∧ e = f := by simpa using h
   rw [hx, add_self, zero_mul, zero_mul, add_zero, add_zero]
   have Xn : X ≠ 0 := fun h => by rw [h, zero_mul] at hx; exact one_ne hx.symm
   refine ⟨mul_left_comm _ _ _, mul_ne Xn fun h0 => ?_⟩
   obtain ⟨Z, h1, h2⟩ := (ev_loc (T.map Prod.fst) (T.length + 1) x (by simp)).1 h0
   have : (X + Z) * x = 0 := by rw [add_mul, hx, h2, add_self]
   rw [mul_comm] at this
   have := add_eq_zero (eq_zero_of_mul this xn)
   exact hY (this ▸ h1)
  ·obtain ⟨i1, i2⟩ := ih X e x hn' h hx
   have h0 : ev (T.length + 1) (loc (T.map Prod.fst)) x = 0 := (ev_loc _ _ x (by simp)).2 ⟨X, List.mem_map_of_mem (f := Prod.fst) h, hx⟩
   have hYX : X ≠ Y := fun e => hY (e ▸ List.mem_map_of_mem (f := Prod.fst) h)
   rw [h0, mul_zero, mul_zero, zero_add, zero_add]
   refine ⟨by rw [mul_left_comm, i1, mul_left_comm], mul_ne (fun h0 => ?_) i2⟩
   have : (X + Y) * x = 0 := by rw [add_mul, hx]; exact h0
   rw [mul_comm] at this
   exact hYX (add_eq_zero (eq_zero_of_mul this xn))
theorem vand (n : Nat) : ∀ (T : Sp), T.length = n → (T.map Prod.fst).Nodup → (∀ j, j < n → ps T j = 0) → ∀ Xe, Xe ∈ T → Xe.2 = 0 := by
 induction n with
 | zero => intro T hT _ _ Xe h; rw [List.length_eq_zero_iff.1 hT] at h; simp at h
 | succ n ih =>
  intro T hT hn hz
  match T, hT, hn, hz with
  | (X, e) :: T, hT, hn, hz =>
   have hn' : (T.map Prod.fst).Nodup := (List.nodup_cons.1 hn).2
   have hX : X ∉ T.map Prod.fst := (List.nodup_cons.1 hn).1
   let T' : Sp := T.map fun Yf => (Yf.1, Yf.2 * (Yf.1 + X))
   have key : ∀ (S : Sp) (j : Nat), ps (S.map fun Yf => (Yf.1, Yf.2 * (Yf.1 + X))) j = ps S (j + 1) + X * ps S j := by
    intro S j
    induction S with
    | nil => show (0 : GF) = 0 + X * 0; rw [mul_zero, add_zero]
    | cons Yf S ihS =>
     obtain ⟨Y, f⟩ := Yf
     show f * (Y + X) * pow Y j + ps (S.map fun Yf => (Yf.1, Yf.2 * (Yf.1 + X))) j = f * pow Y (j + 1) + ps S (j + 1) + X * (f * pow Y j + ps S j)
     rw [ihS, pow_succ, mul_add, mul_add, add_mul]
     rw [show f * Y * pow Y j = f * (Y * pow Y j) from mul_assoc _ _ _, show f * X * pow Y j = X * (f * pow Y j) from by rw [mul_comm f X, mul_assoc]]
     ac_rfl
   have hT' : ∀ j, j < n → ps T' j = 0 := by
    intro j hj
    have h1 := hz j (by omega)
    have h2 := hz (j + 1) (by omega)
    have h3 : ps T j = e * pow X j := (add_eq_zero (show e * pow X j + ps T j = 0 from h1)).symm
    have h4 : ps T (j + 1) = e * pow X (j + 1) := (add_eq_zero (show e * pow X (j + 1) + ps T (j + 1) = 0 from h2)).symm
    rw [key T j, h3, h4, pow_succ, mul_left_comm, add_self]
   have hlen : T'.length = n := by simpa [T'] using hT
   have hfst : T'.map Prod.fst = T.map Prod.fst := by simp [T']
   have r := ih T' hlen (hfst ▸ hn') hT'
   have rest : ∀ Yf, Yf ∈ T → Yf.2 = 0 := by
    intro Yf hm
    have h0 := r (Yf.1, Yf.2 * (Yf.1 + X)) (List.mem_map_of_mem (f := fun Yf : GF × GF => (Yf.1, Yf.2 * (Yf.1 + X))) hm)
    have hne : Yf.1 + X ≠ 0 := add_ne fun e => hX (e ▸ List.mem_map_of_mem (f := Prod.fst) hm)
    exact eq_zero_of_mul (by rw [mul_comm]; exact h0) hne
   have pz : ∀ (S : Sp) (j : Nat), (∀ Yf, Yf ∈ S → Yf.2 = 0) → ps S j = 0 := by
    intro S j h
    induction S with
    | nil => rfl
    | cons Yf S ihS =>
     obtain ⟨Y, f⟩ := Yf
     show f * pow Y j + ps S j = 0
     rw [ihS (fun z hz => h z (by simp [hz])), show f = 0 from h (Y, f) (by simp), zero_mul, add_zero]
   intro Yf hm
   rcases List.mem_cons.1 hm with rfl | hm
   ·have h1 := hz 0 (by omega)
    have h2 : e * 1 + ps T 0 = 0 := h1
    rw [pz T 0 rest, add_zero, mul_one] at h2
    exact h2
   ·exact rest Yf hm
theorem root_factor (L : List GF) : ∀ (c : PS) (l : Nat), L.Nodup → c 0 = 1 → (∀ k, l < k → c k = 0) → l ≤ L.length → (∀ X, X ∈ L → cv l c (geo X) = 0) → l = L.length ∧ ∀ k, c k = loc L k := by
 induction L with
 | nil =>
  intro c l _ h0 hd hl _
  obtain rfl : l = 0 := by simpa using hl
  refine ⟨rfl, fun k => ?_⟩
  cases k with
  | zero => exact h0
  | succ k => exact hd _ (by omega)
 | cons X L ih =>
  intro c l hn h0 hd hl hr
  have hX := hr X (by simp)
  cases l with
  | zero => exact absurd (show c 0 * 1 = 0 from hX) (by rw [mul_one, h0]; exact one_ne)
  | succ m =>
   let c2 : PS := fun k => cv k c (geo X)
   have d2 : ∀ k, m < k → c2 k = 0 := by
    intro k hk
    obtain ⟨t, rfl⟩ : ∃ t, k = (m + 1) + t := ⟨k - (m + 1), by omega⟩
    show cv (m + 1 + t) c (geo X) = 0
    rw [cv_geo_more c X (m + 1) hd t, hX, mul_zero]
   have cs : ∀ k, c k = st X c2 k := fun k => (st_cv_geo X c k).symm
   have r2 : ∀ Y, Y ∈ L → cv m c2 (geo Y) = 0 := by
    intro Y hY
    have h1 := hr Y (by simp [hY])
    rw [cv_congr (m + 1) c (st X c2) (geo Y) (geo Y) (fun i _ => cs i) (fun _ _ => rfl), cv_st] at h1
    have h2 : cv (m + 1) c2 (geo Y) + X * cv m c2 (geo Y) = 0 := h1
    rw [cv_geo_succ, d2 _ (by omega), add_zero, ← add_mul] at h2
    exact eq_zero_of_mul h2 (add_ne fun e => (List.nodup_cons.1 hn).1 (e ▸ hY))
   obtain ⟨hm, hc⟩ := ih c2 m (List.nodup_cons.1 hn).2 (by show c 0 * 1 = 1; rw [mul_one, h0]) d2 (by simpa using hl) r2
   refine ⟨by simp [hm], fun k => ?_⟩
   rw [cs k]
   exact st_congr k (fun i _ => hc i)
theorem cv_ps (k : Nat) (c : PS) (E : Sp) : cv k c (ps E) = ps (E.map fun Xe => (Xe.1, Xe.2 * cv k c (geo Xe.1))) 0 := by
 induction E with
 | nil => rw [cv_comm]; exact cv_zero_left _ _
 | cons Xe E ih =>
  obtain ⟨X, e⟩ := Xe
  show cv k c (fun i => e * geo X i + ps E i) = e * cv k c (geo X) * 1 + _
  rw [cv_add_right, cv_smul_right, ih, mul_one]
theorem ps_pow (E : Sp) (t : Nat) (c : GF → GF) : ps (E.map fun Xe => (Xe.1, Xe.2 * (pow Xe.1 t * c Xe.1))) 0 = ps (E.map fun Xe => (Xe.1, Xe.2 * c Xe.1)) t := by
 induction E with
 | nil => rfl
 | cons Xe E ih =>
  obtain ⟨X, e⟩ := Xe
  show e * (pow X t * c X) * 1 + _ = e * c X * pow X t + _
  rw [ih, mul_one, mul_assoc, mul_comm (c X)]
theorem gen_unique (E : Sp) (T : PS) (g p len : Nat) (c : PS) (hn : (E.map Prod.fst).Nodup) (he : ∀ Xe, Xe ∈ E → Xe.2 ≠ 0)
  (hT : ∀ j, g ≤ j → j < p → T j = ps E (j - g)) (h0 : c 0 = 1) (gl : g ≤ len) (hd : ∀ k, len - g < k → c k = 0) (hl : len ≤ g + E.length) (hp : len + E.length ≤ p)
  (hz : ∀ j, len ≤ j → j < p → cv j c T = 0) : len = g + E.length ∧ ∀ k, c k = loc (E.map Prod.fst) k := by
 have roots : ∀ X, X ∈ E.map Prod.fst → cv (len - g) c (geo X) = 0 := by
  intro X hX
  obtain ⟨Xe, hm, rfl⟩ := List.mem_map.1 hX
  have := vand E.length (E.map fun Xe => (Xe.1, Xe.2 * cv (len - g) c (geo Xe.1))) (by simp) (by simpa [Function.comp_def] using hn) (by
   intro t ht
   have h1 := hz (len + t) (by omega) (by omega)
   have hd' : ∀ i, (len - g) + t < i → c i = 0 := fun i hi => hd i (by omega)
   rw [show len + t = ((len - g) + t) + g from by omega, cv_later g _ c T hd'] at h1
   rw [cv_congr _ c c _ (ps E) (fun _ _ => rfl) (fun i hi => by rw [hT (i + g) (by omega) (by omega), show i + g - g = i from by omega]), cv_ps] at h1
   rw [← ps_pow E t (fun X => cv (len - g) c (geo X))]
   rw [← h1]
   congr 1
   apply List.map_congr_left
   intro Ye _
   rw [cv_geo_more c Ye.1 (len - g) hd t]) (Xe.1, Xe.2 * cv (len - g) c (geo Xe.1)) (List.mem_map_of_mem (f := fun Xe : GF × GF => (Xe.1, Xe.2 * cv (len - g) c (geo Xe.1))) hm)
  exact eq_zero_of_mul this (he Xe hm)
 obtain ⟨h1, h2⟩ := root_factor (E.map Prod.fst) c (len - g) hn h0 hd (by simp; omega) roots
 exact ⟨by simp at h1; omega, h2⟩
structure Bm (T : PS) (g v r : Nat) (c b : PS) (len : Nat) : Prop where
 c0 : c 0 = 1
 cd : ∀ k, len - g < k → c k = 0
 gl : g ≤ len
 lr : len ≤ r
 lv : len ≤ g + v
 cz : ∀ j, len ≤ j → j < r → cv j c T = 0
 bd : ∀ k, r - len < k → b k = 0
 bz : ∀ j, r + 1 + g - len ≤ j → j < r → cv j (sh b) T = 0
 b1 : g < len → cv r (sh b) T = 1
theorem Bm.start (T : PS) (g v : Nat) : Bm T g v g dl dl g where
 c0 := rfl
 cd := fun k h => by obtain ⟨j, rfl⟩ : ∃ j, k = j + 1 := ⟨k - 1, by omega⟩; rfl
 gl := Nat.le_refl _
 lr := Nat.le_refl _
 lv := Nat.le_add_right _ _
 cz := fun j h1 h2 => by omega
 bd := fun k h => by obtain ⟨j, rfl⟩ : ∃ j, k = j + 1 := ⟨k - 1, by omega⟩; rfl
 bz := fun j h1 h2 => by omega
 b1 := fun h => by omega
theorem sh_deg {b : PS} {n : Nat} (h : ∀ k, n < k → b k = 0) : ∀ k, n + 1 < k → sh b k = 0 := by
 intro k hk; obtain ⟨j, rfl⟩ : ∃ j, k = j + 1 := ⟨k - 1, by omega⟩; exact h j (by omega)
theorem cv_sh_succ (k : Nat) (f g : PS) : cv (k + 1) (sh f) g = cv k f g := cv_sh (k + 1) f g
theorem Bm.same {T : PS} {g v r : Nat} {c b : PS} {len : Nat} (h : Bm T g v r c b len) (hd : cv r c T = 0) : Bm T g v (r + 1) c (sh b) len where
 c0 := h.c0
 cd := h.cd
 gl := h.gl
 lr := Nat.le_succ_of_le h.lr
 lv := h.lv
 cz := fun j h1 h2 => by
  by_cases e : j = r
  ·rw [e]; exact hd
  ·exact h.cz j h1 (by omega)
 bd := fun k hk => sh_deg h.bd k (by have := h.lr; omega)
 bz := fun j h1 h2 => by
  have := h.lr
  obtain ⟨i, rfl⟩ : ∃ i, j = i + 1 := ⟨j - 1, by omega⟩
  rw [cv_sh_succ]; exact h.bz i (by omega) (by omega)
 b1 := fun hl => by rw [cv_sh_succ]; exact h.b1 hl
theorem Bm.long {T s : PS} {g v r p : Nat} {c b : PS} {len : Nat} (h : Bm T g v r c b len) (s0 : s 0 = 1) (sd : ∀ k, v < k → s k = 0) (sz : ∀ j, g + v ≤ j → j < p → cv j s T = 0) (hr : r < p) (hd : cv r c T ≠ 0) : r + 1 ≤ len + v := by
 by_cases hv : r + 1 ≤ len + v
 ·exact hv
 ·exfalso
  have e1 : cv r c (fun i => cv i s T) = 0 := cv_none r _ _ (fun i hi => by
   by_cases hc : len - g < i
   ·exact .inl (h.cd i hc)
   ·exact .inr (sz (r - i) (by have := h.gl; omega) (by omega)))
  have e2 : cv r s (fun i => cv i c T) = s 0 * cv r c T := cv_first r _ _ (fun i h1 hi => by
   by_cases hc : v < i
   ·exact .inl (sd i hc)
   ·exact .inr (h.cz (r - i) (by omega) (by omega)))
  rw [cv_left_comm, e2, s0, one_mul] at e1
  exact hd e1
theorem Bm.turn {T s : PS} {g v r p : Nat} {c b : PS} {len : Nat} (h : Bm T g v r c b len) (s0 : s 0 = 1) (sd : ∀ k, v < k → s k = 0) (sz : ∀ j, g + v ≤ j → j < p → cv j s T = 0) (hr : r < p) (hd : cv r c T ≠ 0) (h2 : 2 * len ≤ r + g) :
  Bm T g v (r + 1) (fun k => c k + cv r c T * sh b k) (fun k => (cv r c T).inv * c k) (r + g + 1 - len) := by
 have hl := h.long s0 sd sz hr hd
 have lr := h.lr
 have gl := h.gl
 exact {
  c0 := by show c 0 + cv r c T * 0 = 1; rw [mul_zero, add_zero, h.c0]
  cd := fun k hk => by
   show c k + cv r c T * sh b k = 0
   rw [h.cd k (by omega), sh_deg h.bd k (by omega), mul_zero, add_zero]
  gl := by omega
  lr := by omega
  lv := by omega
  cz := fun j h1 hj => by
   rw [cv_add_left, cv_smul_left]
   by_cases e : j = r
   ·rw [e, h.b1 (by omega), mul_one, add_self]
   ·rw [h.cz j (by omega) (by omega), h.bz j (by omega) (by omega), mul_zero, add_zero]
  bd := fun k hk => by
   show (cv r c T).inv * c k = 0
   rw [h.cd k (by omega), mul_zero]
  bz := fun j h1 hj => by
   obtain ⟨i, rfl⟩ : ∃ i, j = i + 1 := ⟨j - 1, by omega⟩
   rw [cv_sh_succ, cv_smul_left, h.cz i (by omega) (by omega), mul_zero]
  b1 := fun _ => by rw [cv_sh_succ, cv_smul_left, mul_comm]; exact mul_inv hd }
theorem Bm.keep {T : PS} {g v r : Nat} {c b : PS} {len : Nat} (h : Bm T g v r c b len) (h2 : ¬ 2 * len ≤ r + g) :
  Bm T g v (r + 1) (fun k => c k + cv r c T * sh b k) (sh b) len := by
 have lr := h.lr
 have gl := h.gl
 exact {
  c0 := by show c 0 + cv r c T * 0 = 1; rw [mul_zero, add_zero, h.c0]
  cd := fun k hk => by
   show c k + cv r c T * sh b k = 0
   rw [h.cd k (by omega), sh_deg h.bd k (by omega), mul_zero, add_zero]
  gl := h.gl
  lr := by omega
  lv := h.lv
  cz := fun j h1 hj => by
   rw [cv_add_left, cv_smul_left]
   by_cases e : j = r
   ·rw [e, h.b1 (by omega), mul_one, add_self]
   ·rw [h.cz j (by omega) (by omega), h.bz j (by omega) (by omega), mul_zero, add_zero]
  bd := fun k hk => sh_deg h.bd k (by omega)
  bz := fun j h1 hj => by
   obtain ⟨i, rfl⟩ : ∃ i, j = i + 1 := ⟨j - 1, by omega⟩
   rw [cv_sh_succ]; exact h.bz i (by omega) (by omega)
  b1 := fun hl => by rw [cv_sh_succ]; exact h.b1 hl }
def freed (G : List GF) (e : GF × GF) : GF × GF := (e.1, G.foldr (fun Y y => y * (e.1 + Y)) e.2)
theorem loc_geo (G : List GF) (X e : GF) : ∀ k, G.length ≤ k → cv k (loc G) (fun k => e * pow X k) = (freed G (X, e)).2 * pow X (k - G.length) := by
 induction G with
 | nil => intro k _; show cv k dl _ = _; rw [cv_dl]; rfl
 | cons Y G ih =>
  intro k hk
  have hk' : G.length + 1 ≤ k := hk
  show cv k (st Y (loc G)) _ = (freed G (X, e)).2 * (X + Y) * pow X (k - (G.length + 1))
  rw [cv_st]
  obtain ⟨j, rfl⟩ : ∃ j, k = j + 1 := ⟨k - 1, by omega⟩
  show cv (j + 1) (loc G) _ + Y * cv j (loc G) _ = _
  rw [ih _ (by omega), ih _ (by omega), show j + 1 - G.length = (j - G.length) + 1 from by omega, show j + 1 - (G.length + 1) = j - G.length from by omega, pow_succ]
  rw [show (freed G (X, e)).2 * (X + Y) * pow X (j - G.length) = (freed G (X, e)).2 * (X * pow X (j - G.length)) + Y * ((freed G (X, e)).2 * pow X (j - G.length)) from by
   rw [mul_add, add_mul, mul_assoc, mul_comm _ Y, mul_assoc Y]]
theorem freed_ne (G : List GF) (X e : GF) (he : e ≠ 0) (hX : X ∉ G) : (freed G (X, e)).2 ≠ 0 := by
 induction G with
 | nil => exact he
 | cons Y G ih =>
  show (freed G (X, e)).2 * (X + Y) ≠ 0
  exact mul_ne (ih (fun h => hX (by simp [h]))) (add_ne fun e => hX (by simp [e]))
theorem loc_ps (G : List GF) (E : Sp) : ∀ k, G.length ≤ k → cv k (loc G) (ps E) = ps (E.map (freed G)) (k - G.length) := by
 intro k hk
 induction E with
 | nil => rw [cv_comm]; exact cv_zero_left _ _
 | cons Xe E ih =>
  obtain ⟨X, e⟩ := Xe
  show cv k (loc G) (fun k => e * pow X k + ps E k) = (freed G (X, e)).2 * pow X (k - G.length) + _
  rw [cv_add_right, loc_geo G X e k hk, ih]
theorem ps_append (A B : Sp) (k : Nat) : ps (A ++ B) k = ps A k + ps B k := by
 induction A with
 | nil => exact (zero_add _).symm
 | cons Xe A ih => obtain ⟨X, e⟩ := Xe; show _ + ps (A ++ B) k = _ + ps A k + _; rw [ih, add_assoc]
theorem loc_append (A B : List GF) (k : Nat) : cv k (loc A) (loc B) = loc (A ++ B) k := by
 induction A generalizing k with
 | nil => exact cv_dl _ _
 | cons X A ih => show cv k (st X (loc A)) _ = st X (loc (A ++ B)) k; rw [cv_st]; exact st_congr k (fun i _ => ih i)
end Go.Proofs.YtiioklboaookiaaGreatDoor.Rs
namespace Go.Proofs.YtiioklboaookiaaGreatDoor.Rs
open GF
def hv : Nat → PS → GF → GF
 | 0, _, _ => 0
 | n + 1, f, x => f 0 * pow x n + hv n (tl f) x
theorem hv_congr (n : Nat) (x : GF) : ∀ (f g : PS), (∀ i, i < n → f i = g i) → hv n f x = hv n g x := by
 induction n with
 | zero => intro f g _; rfl
 | succ n ih => intro f g h; simp only [hv]; rw [h 0 (by omega), ih (tl f) (tl g) (fun i hi => h (i + 1) (by omega))]
theorem hv_cv (n : Nat) (x : GF) : ∀ (f : PS), hv (n + 1) f x = cv n f (geo x) := by
 induction n with
 | zero => intro f; exact add_zero _
 | succ n ih => intro f; rw [hv, ih (tl f)]; rfl
theorem hv_add (n : Nat) (x : GF) : ∀ (f g : PS), hv n (fun i => f i + g i) x = hv n f x + hv n g x := by
 induction n with
 | zero => intro f g; exact (add_zero _).symm
 | succ n ih =>
  intro f g; simp only [hv]
  rw [show tl (fun i => f i + g i) = fun i => tl f i + tl g i from rfl, ih, add_mul]; ac_rfl
theorem hv_smul (n : Nat) (x c : GF) : ∀ (f : PS), hv n (fun i => c * f i) x = c * hv n f x := by
 induction n with
 | zero => intro f; exact (mul_zero _).symm
 | succ n ih =>
  intro f; simp only [hv]
  rw [show tl (fun i => c * f i) = fun i => c * tl f i from rfl, ih, mul_add, mul_assoc]
theorem hv_none (n : Nat) (x : GF) : ∀ (f : PS), (∀ i, i < n → f i = 0) → hv n f x = 0 := by
 induction n with
 | zero => intro f _; rfl
 | succ n ih => intro f h; simp only [hv]; rw [h 0 (by omega), ih (tl f) (fun i hi => h (i + 1) (by omega)), zero_mul, add_zero]
theorem hv_horner (n : Nat) (x : GF) : ∀ (f : PS), hv (n + 1) f x = hv n f x * x + f n := by
 induction n with
 | zero => intro f; show f 0 * 1 + 0 = 0 * x + f 0; rw [zero_mul, zero_add, add_zero, mul_one]
 | succ n ih =>
  intro f
  rw [hv, ih (tl f), hv, add_mul, mul_assoc, add_assoc]; rfl
theorem hv_split (p : Nat) (x : GF) (n : Nat) : ∀ (f : PS), hv (n + p) f x = pow x p * hv n f x + hv p (fun j => f (n + j)) x := by
 induction n with
 | zero => intro f; rw [show hv 0 f x = 0 from rfl, mul_zero, zero_add, Nat.zero_add]; exact hv_congr _ _ _ _ (fun i _ => by rw [Nat.zero_add])
 | succ n ih =>
  intro f
  rw [show n + 1 + p = (n + p) + 1 from by omega, hv, ih (tl f), hv, pow_add, mul_add, add_assoc]
  rw [show (fun j => tl f (n + j)) = fun j => f (n + 1 + j) from funext fun j => by show f (n + j + 1) = _; congr 1; omega]
  rw [show f 0 * (pow x n * pow x p) = pow x p * (f 0 * pow x n) from by ac_rfl]
theorem loc_root (A : List GF) (X : GF) (h : X ∈ A) : ∀ k, A.length ≤ k → cv k (loc A) (geo X) = 0 := by
 induction A with
 | nil => simp at h
 | cons Y A ih =>
  intro k hk
  have hk' : A.length + 1 ≤ k := hk
  show cv k (st Y (loc A)) (geo X) = 0
  rw [cv_st]
  by_cases e : X = Y
  ·subst e
   rw [← cv_st', st_geo, cv_comm, cv_dl]; exact loc_deg A k hk'
  ·have hm : X ∈ A := by simpa [e] using h
   obtain ⟨j, rfl⟩ : ∃ j, k = j + 1 := ⟨k - 1, by omega⟩
   show cv (j + 1) (loc A) (geo X) + Y * cv j (loc A) (geo X) = 0
   rw [ih hm _ (by omega), ih hm _ (by omega), mul_zero, add_zero]
def als : Nat → List GF
 | 0 => []
 | n + 1 => al n :: als n
theorem als_length (p : Nat) : (als p).length = p := by
 induction p with
 | zero => rfl
 | succ p ih => show (als p).length + 1 = _; rw [ih]
theorem als_mem (p : Nat) : ∀ i, i < p → al i ∈ als p := by
 induction p with
 | zero => intro i hi; omega
 | succ p ih =>
  intro i hi
  by_cases e : i = p
  ·subst e; exact List.mem_cons_self
  ·exact List.mem_cons_of_mem _ (ih i (by omega))
def gen (p : Nat) : PS := loc (als p)
theorem gen_zero (p : Nat) : gen p 0 = 1 := loc_zero _
theorem gen_deg (p k : Nat) (h : p < k) : gen p k = 0 := loc_deg _ _ (by rw [als_length]; omega)
theorem gen_root (p i m : Nat) (hi : i < p) (hm : p ≤ m) : hv (m + 1) (gen p) (al i) = 0 := by
 rw [hv_cv]; exact loc_root _ _ (als_mem p i hi) m (by rw [als_length]; exact hm)
def nx (L E : PS) : PS := fun j => E (j + 1) + E 0 * L (j + 1)
def en (L : PS) : Nat → PS → PS
 | 0, E => E
 | n + 1, E => en L n (nx L E)
theorem hv_nx (p i m : Nat) (E : PS) (hi : i < p) (hm : p ≤ m) : hv m (nx (gen p) E) (al i) = hv (m + 1) E (al i) := by
 have h1 : hv (m + 1) (fun j => E j + E 0 * gen p j) (al i) = hv (m + 1) E (al i) := by
  rw [hv_add, hv_smul, gen_root p i m hi hm, mul_zero, add_zero]
 rw [← h1, hv]
 rw [show E 0 + E 0 * gen p 0 = 0 from by rw [gen_zero, mul_one, add_self], zero_mul, zero_add]; rfl
theorem hv_en (p i : Nat) (hi : i < p) (n : Nat) : ∀ (m : Nat) (E : PS), p ≤ m → hv m (en (gen p) n E) (al i) = hv (m + n) E (al i) := by
 induction n with
 | zero => intro m E _; rfl
 | succ n ih => intro m E hm; rw [en, ih m _ hm, hv_nx p i (m + n) E hi (by omega)]; rfl
def cut (n : Nat) (f : PS) : PS := fun j => if j < n then f j else 0
def wd (n p : Nat) (f : PS) : PS := fun j => if j < n then f j else en (gen p) n (cut n f) (j - n)
theorem wd_code (n p : Nat) (f : PS) (i : Nat) (hi : i < p) : hv (n + p) (wd n p f) (al i) = 0 := by
 have h1 := hv_en p i hi n p (cut n f) (Nat.le_refl _)
 rw [Nat.add_comm p n, hv_split p (al i) n (cut n f), hv_none p _ (fun j => cut n f (n + j)) (fun j _ => by unfold cut; rw [if_neg (by omega)]), add_zero] at h1
 rw [hv_split p (al i) n, hv_congr n (al i) (wd n p f) (cut n f) (fun j hj => by unfold wd cut; rw [if_pos hj, if_pos hj]), ← h1]
 rw [hv_congr p (al i) (fun j => wd n p f (n + j)) (en (gen p) n (cut n f)) (fun j hj => by show wd n p f (n + j) = _; unfold wd; rw [if_neg (by omega), Nat.add_sub_cancel_left]), add_self]
theorem en_congr (L : PS) (n : Nat) : ∀ (E F : PS), (∀ j, E j = F j) → ∀ j, en L n E j = en L n F j := by
 intro E F h j; rw [show E = F from funext h]
theorem pow_al (m : Nat) : ∀ n, pow (al m) n = al (m * n) := by
 intro n
 induction n with
 | zero => rfl
 | succ n ih => show pow (al m) n * al m = _; rw [ih, al_add]; rfl
def spf : Nat → PS → Sp
 | 0, _ => []
 | n + 1, f => (al n, f 0) :: spf n (tl f)
theorem hv_ps (n i : Nat) : ∀ f, hv n f (al i) = ps (spf n f) i := by
 induction n with
 | zero => intro f; rfl
 | succ n ih => intro f; show f 0 * pow (al i) n + hv n (tl f) (al i) = f 0 * pow (al n) i + ps (spf n (tl f)) i; rw [ih, pow_al, pow_al, Nat.mul_comm]
theorem spf_mem (n : Nat) : ∀ (f : PS) (Xe : GF × GF), Xe ∈ spf n f → ∃ j, j < n ∧ Xe = (al (n - 1 - j), f j) := by
 induction n with
 | zero => intro f Xe h; simp [spf] at h
 | succ n ih =>
  intro f Xe h
  rcases List.mem_cons.1 h with e | h
  ·exact ⟨0, by omega, e⟩
  ·obtain ⟨j, hj, e⟩ := ih (tl f) Xe h
   exact ⟨j + 1, by omega, by rw [e, show n + 1 - 1 - (j + 1) = n - 1 - j from by omega]; rfl⟩
theorem mem_spf (n : Nat) : ∀ (f : PS) (j : Nat), j < n → (al (n - 1 - j), f j) ∈ spf n f := by
 induction n with
 | zero => intro f j h; omega
 | succ n ih =>
  intro f j h
  cases j with
  | zero => exact List.mem_cons_self
  | succ j => rw [show n + 1 - 1 - (j + 1) = n - 1 - j from by omega]; exact List.mem_cons_of_mem _ (ih (tl f) j (by omega))
theorem spf_nodup (n : Nat) : ∀ (f : PS), n ≤ 255 → ((spf n f).map Prod.fst).Nodup := by
 induction n with
 | zero => intro f _; exact List.nodup_nil
 | succ n ih =>
  intro f h
  refine List.nodup_cons.2 ⟨fun hm => ?_, ih (tl f) (by omega)⟩
  obtain ⟨Xe, hm, e⟩ := List.mem_map.1 hm
  obtain ⟨j, hj, rfl⟩ := spf_mem n _ _ hm
  have := al_inj (by omega) (by omega) (show al (n - 1 - j) = al n from e)
  omega
def cnt : Nat → PS → Nat
 | 0, _ => 0
 | n + 1, f => (if f 0 = 0 then 0 else 1) + cnt n (tl f)
def nz (T : Sp) : Sp := T.filter fun Xe => decide (Xe.2 ≠ 0)
theorem nz_ps (T : Sp) (i : Nat) : ps (nz T) i = ps T i := by
 induction T with
 | nil => rfl
 | cons Xe T ih =>
  obtain ⟨X, e⟩ := Xe
  unfold nz
  by_cases h : e = 0
  ·rw [List.filter_cons_of_neg (by simpa using h)]
   show ps (nz T) i = e * pow X i + ps T i
   rw [ih, h, zero_mul, zero_add]
  ·rw [List.filter_cons_of_pos (by simpa using h)]
   show e * pow X i + ps (nz T) i = e * pow X i + ps T i
   rw [ih]
theorem nz_length (n : Nat) : ∀ f, (nz (spf n f)).length = cnt n f := by
 induction n with
 | zero => intro f; rfl
 | succ n ih =>
  intro f
  have e := ih (tl f)
  unfold nz at *
  show (List.filter _ ((al n, f 0) :: spf n (tl f))).length = (if f 0 = 0 then 0 else 1) + cnt n (tl f)
  by_cases h : f 0 = 0
  ·rw [List.filter_cons_of_neg (by simpa using h), e, if_pos h]; omega
  ·rw [List.filter_cons_of_pos (by simpa using h), if_neg h, List.length_cons, e]; omega
theorem nz_nodup (n : Nat) (f : PS) (h : n ≤ 255) : ((nz (spf n f)).map Prod.fst).Nodup :=
 List.Nodup.sublist (List.Sublist.map _ List.filter_sublist) (spf_nodup n f h)
theorem far (N p : Nat) (f : PS) (hN : N ≤ 255) (hz : ∀ i, i < p → hv N f (al i) = 0) (hc : cnt N f ≤ p) : ∀ j, j < N → f j = 0 := by
 intro j hj
 by_cases h : f j = 0
 ·exact h
 ·have hm : (al (N - 1 - j), f j) ∈ nz (spf N f) := List.mem_filter.2 ⟨mem_spf N f j hj, by simpa using h⟩
  exact vand _ (nz (spf N f)) rfl (nz_nodup N f hN) (fun i hi => by rw [nz_ps, ← hv_ps]; exact hz i (by rw [nz_length] at hi; omega)) _ hm
theorem cnt_congr (n : Nat) : ∀ (f g : PS), (∀ i, i < n → (f i = 0 ↔ g i = 0)) → cnt n f = cnt n g := by
 induction n with
 | zero => intro f g _; rfl
 | succ n ih =>
  intro f g h; simp only [cnt]; rw [ih (tl f) (tl g) (fun i hi => h (i + 1) (by omega))]
  by_cases e : f 0 = 0
  ·rw [if_pos e, if_pos ((h 0 (by omega)).1 e)]
  ·rw [if_neg e, if_neg (fun e' => e ((h 0 (by omega)).2 e'))]
theorem cnt_le (n : Nat) : ∀ (f : PS), cnt n f ≤ n := by
 induction n with
 | zero => intro f; exact Nat.le_refl _
 | succ n ih => intro f; simp only [cnt]; have := ih (tl f); split <;> omega
theorem cnt_none (n : Nat) : ∀ f, (∀ i, i < n → f i = 0) → cnt n f = 0 := by
 induction n with
 | zero => intro f _; rfl
 | succ n ih => intro f h; simp only [cnt]; rw [if_pos (h 0 (by omega)), ih (tl f) (fun i hi => h (i + 1) (by omega))]
def dlt (i : Nat) : PS := fun t => if t = i then 1 else 0
theorem cv_dlt (g : PS) : ∀ (j i : Nat), cv j (dlt i) g = if i ≤ j then g (j - i) else 0 := by
 intro j
 induction j with
 | zero =>
  intro i
  cases i with
  | zero => show 1 * g 0 = _; rw [one_mul]; rfl
  | succ i => show 0 * g 0 = _; rw [zero_mul, if_neg (by omega)]
 | succ j ih =>
  intro i
  cases i with
  | zero =>
   rw [cv_first (j + 1) _ _ (fun i h _ => .inl (by unfold dlt; rw [if_neg (by omega)]))]
   show 1 * g (j + 1) = _; rw [one_mul]; rfl
  | succ i =>
   show 0 * g (j + 1) + cv j (tl (dlt (i + 1))) g = _
   rw [zero_mul, zero_add, show tl (dlt (i + 1)) = dlt i from funext fun t => by show (if t + 1 = i + 1 then (1 : GF) else 0) = if t = i then 1 else 0; simp only [Nat.add_right_cancel_iff], ih i]
   by_cases h : i ≤ j
   ·rw [if_pos h, if_pos (by omega), show j + 1 - (i + 1) = j - i from by omega]
   ·rw [if_neg h, if_neg (by omega)]
theorem cv_cut (i j : Nat) (A B : PS) : cv j (cut (i + 1) A) B = cv j (cut i A) B + (if i ≤ j then A i * B (j - i) else 0) := by
 rw [show cut (i + 1) A = fun t => cut i A t + A i * dlt i t from funext fun t => by
  unfold cut dlt
  by_cases e : t = i
  ·subst e; rw [if_pos (by omega), if_neg (by omega), if_pos rfl, mul_one, zero_add]
  ·rw [if_neg e, mul_zero, add_zero]
   by_cases h : t < i
   ·rw [if_pos h, if_pos (by omega)]
   ·rw [if_neg h, if_neg (by omega)], cv_add_left, cv_smul_left, cv_dlt]
 split
 ·rfl
 ·rw [mul_zero]
theorem cv_cut_all (j n : Nat) (A B : PS) (h : j < n) : cv j (cut n A) B = cv j A B :=
 cv_congr j _ _ _ _ (fun i hi => by unfold cut; rw [if_pos (by omega)]) (fun _ _ => rfl)
theorem cut_deg (n : Nat) (f : PS) (h : ∀ k, n ≤ k → f k = 0) : cut n f = f := by
 funext k; unfold cut
 split
 ·rfl
 ·exact (h k (by omega)).symm
end Go.Proofs.YtiioklboaookiaaGreatDoor.Rs
namespace Go.Proofs.YtiioklboaookiaaGreatDoor.Pure
open Go.RowKit Go.Proofs.YtiioklboaookiaaGreatDoor.Q Go.Proofs.YtiioklboaookiaaGreatDoorW.PrintWords Go.Proofs.YtiioklboaookiaaGreatDoorW.PrintLast Go.Proofs.YtiioklboaookiaaGreatDoorW.PrintMore
set_option linter.unusedVariables false
set_option linter.unusedSimpArgs false
theorem Ev.bind' {α β : Type} {x : Option α} {f : Nat → α → Option β} {a : α} {r : β} (h : x = some a) (k : Ev (fun n => f n a) r) : Ev (fun n => x.bind (f n)) r := by
 obtain ⟨K, k⟩ := k
 exact ⟨K, fun n hn => by rw [h]; exact k n hn⟩
theorem Ev.cong {α : Type} {g f : Nat → Option α} {r : α} (k : Ev f r) (h : ∀ k, g k = f k) : Ev g r := Ev.congr h k
theorem Ev.pos {α : Type} {c : Prop} [Decidable c] {f g : Nat → Option α} {r : α} (h : c) (k : Ev f r) : Ev (fun n => if c then f n else g n) r := Ev.cong k (fun _ => if_pos h)
theorem Ev.neg {α : Type} {c : Prop} [Decidable c] {f g : Nat → Option α} {r : α} (h : ¬ c) (k : Ev g r) : Ev (fun n => if c then f n else g n) r := Ev.cong k (fun _ => if_neg h)
theorem w64 {n : Int} (h0 : -1000000 ≤ n) (h1 : n ≤ 1000000) : wrap64 n = n := Hand.w64_in n h0 h1
theorem in8_of {n : Nat} (h : n < 256) : Hand.in8 (n : Int) = true := decide_eq_true (by omega)
theorem mulT {a b : Nat} (ha : a < 256) (hb : b < 256) : Hand.label_mul.f (a : Int) (b : Int) = some ((Rs.mulN a b : Nat) : Int) := by
 rw [Hand.label_mul.some (in8_of ha) (in8_of hb), Int.toNat_natCast, Int.toNat_natCast]
theorem invT {a : Nat} (ha : a < 256) : Hand.label_inv.f (a : Int) = some ((Rs.invN a : Nat) : Int) := by
 unfold Hand.label_inv.f; rw [if_pos (in8_of ha), Int.toNat_natCast]
theorem odd_step (x : Nat) : Int.tmod (x : Int) 2 = (x % 2 : Nat) := by
 rw [Int.tmod_eq_emod_of_nonneg (by omega)]; omega
open Rs (PS GF hv gen gen_zero gen_deg nx en cut wd cv cv_congr cv_comm cv_zero_left cv_add_left cv_smul_left st sh tl loc als cnt)
open Rs.GF (al)
def tb (n : Nat) (f : PS) : List Int := (List.range n).map fun j => (((f j).v : Nat) : Int)
theorem tb_length (n : Nat) (f : PS) : (tb n f).length = n := by simp [tb]
theorem tb_get (n : Nat) (f : PS) (i : Nat) : (tb n f)[i]? = if i < n then some (((f i).v : Nat) : Int) else none := by
 unfold tb
 rw [List.getElem?_map]
 by_cases h : i < n
 ·rw [if_pos h, List.getElem?_range h]; rfl
 ·rw [if_neg h, List.getElem?_eq_none (by simp; omega)]; rfl
theorem tb_rd (n : Nat) (f : PS) (i : Nat) (h : i < n) : rd (tb n f) (i : Int) = (((f i).v : Nat) : Int) := by
 unfold rd; rw [Int.toNat_natCast, List.getD_eq_getElem?_getD, tb_get, if_pos h]; rfl
theorem tb_congr {n : Nat} {f g : PS} (h : ∀ j, j < n → f j = g j) : tb n f = tb n g := by
 unfold tb; exact List.map_congr_left fun j hj => by rw [h j (List.mem_range.1 hj)]
theorem tb_ext {n : Nat} {f : PS} {l : List Int} (hl : l.length = n) (h : ∀ j, j < n → l[j]? = some (((f j).v : Nat) : Int)) : l = tb n f := by
 apply List.ext_getElem?
 intro j
 rw [tb_get]
 split
 ·rename_i hj; exact h j hj
 ·exact List.getElem?_eq_none (by omega)
theorem tb_set (n : Nat) (f : PS) (i : Nat) (x : GF) : (tb n f).set i ((x.v : Nat) : Int) = tb n (fun j => if j = i then x else f j) := by
 refine tb_ext (by rw [List.length_set, tb_length]) fun j hj => ?_
 rw [List.getElem?_set, tb_get, tb_length]
 by_cases e : i = j
 ·subst e; rw [if_pos rfl, if_pos hj, if_pos rfl]
 ·rw [if_neg e, if_pos hj, if_neg (fun h => e h.symm)]
theorem tb_zero (n : Nat) : List.replicate n (0 : Int) = tb n (fun _ => 0) :=
 tb_ext (by simp) fun j hj => by rw [List.getElem?_replicate, if_pos hj]; rfl
theorem tb_succ (n : Nat) (f : PS) : tb (n + 1) f = ((f 0).v : Int) :: tb n (tl f) := by
 symm
 refine tb_ext (by simp [tb_length]) fun j hj => ?_
 cases j with
 | zero => rfl
 | succ j => rw [List.getElem?_cons_succ, tb_get, if_pos (by omega)]; rfl
theorem tb_snoc (n : Nat) (f : PS) : tb n f ++ [((f n).v : Int)] = tb (n + 1) f :=
 tb_ext (by simp [tb_length]) fun j hj => by
  by_cases h : j < n
  ·rw [List.getElem?_append_left (by rw [tb_length]; exact h), tb_get, if_pos h]
  ·obtain rfl : j = n := by omega
   rw [List.getElem?_append_right (by rw [tb_length]; omega), tb_length, Nat.sub_self]; rfl
theorem tb_append (n p : Nat) (f g : PS) : tb n f ++ tb p g = tb (n + p) (fun j => if j < n then f j else g (j - n)) :=
 tb_ext (by simp [tb_length]) fun j hj => by
  by_cases h : j < n
  ·rw [List.getElem?_append_left (by rw [tb_length]; exact h), tb_get, if_pos h, if_pos h]
  ·rw [List.getElem?_append_right (by rw [tb_length]; omega), tb_length, tb_get, if_pos (by omega), if_neg h]
theorem tb_drop (n p : Nat) (f : PS) : (tb (n + p) f).drop n = tb p (fun j => f (n + j)) :=
 tb_ext (by simp [tb_length]) fun j hj => by rw [List.getElem?_drop, tb_get, if_pos (by omega)]
theorem tb_take (n p : Nat) (f : PS) (h : n ≤ p) : (tb p f).take n = tb n f :=
 tb_ext (by simp [tb_length]; omega) fun j hj => by rw [List.getElem?_take, if_pos hj, tb_get, if_pos (by omega)]
theorem in8G (a : GF) : Hand.in8 ((a.v : Nat) : Int) = true := in8_of a.v_lt
theorem tb_bytes (n : Nat) (f : PS) : Hand.bytesB (tb n f) = true := List.all_eq_true.2 fun x hx => by
 obtain ⟨j, _, rfl⟩ := List.mem_map.1 hx
 exact in8G _
theorem tb_of {l : List Int} (h : Hand.bytesB l = true) : ∃ f, l = tb l.length f := by
 have hb : ∀ j, ∀ h' : j < l.length, Hand.in8 l[j] = true := fun j h' => List.all_eq_true.1 h _ (List.getElem_mem h')
 refine ⟨fun j => if h' : j < l.length then Rs.GF.mk l[j].toNat (by have := of_decide_eq_true (hb j h'); omega) else 0, tb_ext rfl fun j hj => ?_⟩
 rw [List.getElem?_eq_getElem hj, dif_pos hj]
 have := of_decide_eq_true (hb j hj)
 rw [Rs.GF.v_mk]
 congr 1; omega
theorem str_bytes (s : ByteArray) : strOfNums (bytesOf s) = s := by
 show ByteArray.mk _ = s
 have e : ((bytesOf s).map fun n => UInt8.ofNat n.toNat) = s.data.toList := by
  unfold bytesOf
  rw [List.map_map]
  conv => rhs; rw [← List.map_id s.data.toList]
  exact List.map_congr_left fun b _ => by simp
 rw [e]
theorem bytes_str {l : List Int} (h : Hand.bytesB l = true) : bytesOf (strOfNums l) = l := by
 show List.map _ (List.map _ l) = l
 rw [List.map_map]
 conv => rhs; rw [← List.map_id l]
 refine List.map_congr_left fun x hx => ?_
 have := of_decide_eq_true (List.all_eq_true.1 h x hx)
 show ((UInt8.ofNat x.toNat).toNat : Int) = x
 rw [UInt8.toNat_ofNat']; omega
theorem str_append (a b : List Int) : strOfNums (a ++ b) = strOfNums a ++ strOfNums b := by
 show ByteArray.mk _ = _
 apply ByteArray.ext
 rw [ByteArray.data_append]
 show (List.map _ (a ++ b)).toArray = (List.map _ a).toArray ++ (List.map _ b).toArray
 rw [List.map_append]; simp
theorem str_size (n : Nat) (f : PS) : (strOfNums (tb n f)).size = n := by rw [Hand.strOfNums_size, tb_length]
theorem str_of (s : ByteArray) : ∃ f, s = strOfNums (tb s.size f) := by
 obtain ⟨f, hf⟩ := tb_of (Hand.bytesB_bytesOf s)
 exact ⟨f, by rw [show s.size = (bytesOf s).length from (bytesOf_length s).symm, ← hf, str_bytes]⟩
theorem bytes_tb (n : Nat) (f : PS) : bytesOf (strOfNums (tb n f)) = tb n f := bytes_str (tb_bytes n f)
theorem xor8G (a b : GF) : Go.bits .xor .u8 ((a.v : Nat) : Int) ((b.v : Nat) : Int) = (((a + b).v : Nat) : Int) := Hand.xor8 _ _ a.v_lt b.v_lt
theorem mulG (a b : GF) : Hand.label_mul.f ((a.v : Nat) : Int) ((b.v : Nat) : Int) = some (((a * b).v : Nat) : Int) := mulT a.v_lt b.v_lt
theorem expG (i : Nat) (h : i ≤ 100000) : Hand.label_exp.f (i : Int) = some (((al i).v : Nat) : Int) := by
 unfold Hand.label_exp.f
 rw [if_pos (by omega), show ((i : Int) % 255).toNat = i % 255 from by omega, ← Rs.pw_mod]; rfl
theorem invG {a : GF} (h : a ≠ 0) : Hand.label_inv.f ((a.v : Nat) : Int) = some (((a.inv).v : Nat) : Int) := invT a.v_lt
theorem wv (a : GF) : wrap64 ((a.v : Nat) : Int) = ((a.v : Nat) : Int) := w64 (by omega) (by have := a.v_lt; omega)
theorem tl_cut (n : Nat) (f : PS) : tl (cut (n + 1) f) = cut n (tl f) := by
 funext j; show (if j + 1 < n + 1 then f (j + 1) else 0) = if j < n then f (j + 1) else 0
 simp only [Nat.add_lt_add_iff_right]
theorem cut_zero (f : PS) : cut 0 f = fun _ => 0 := by funext j; unfold cut; rw [if_neg (by omega)]
theorem tin_tb (x : GF) (m : Nat) (n : Nat) : ∀ (q : PS) (a : Nat) (out : PS), Hand.tin ((x.v : Nat) : Int) (tb m q) a (tb n out) = tb n (fun j => out j + (if a ≤ j then x * cut m q (j - a) else 0)) := by
 induction m with
 | zero =>
  intro q a out
  show tb n out = _
  refine tb_congr fun j _ => ?_
  rw [cut_zero]
  split
  ·rw [Rs.GF.mul_zero, Rs.GF.add_zero]
  ·rw [Rs.GF.add_zero]
 | succ m ih =>
  intro q a out
  rw [tb_succ]
  show Hand.tin _ (tb m (tl q)) (a + 1) ((tb n out).set a (Go.bits .xor .u8 (rd (tb n out) a) (Rs.mulN (x.v : Int).toNat ((q 0).v : Int).toNat : Nat))) = _
  by_cases han : a < n
  ·rw [tb_rd n out a han, Int.toNat_natCast, Int.toNat_natCast, ← Rs.GF.v_mul, xor8G, tb_set, ih]
   refine tb_congr fun j _ => ?_
   by_cases e : j = a
   ·subst e
    rw [if_pos rfl, if_neg (by omega), if_pos (Nat.le_refl _), Nat.sub_self, Rs.GF.add_zero]
    unfold cut; rw [if_pos (by omega)]
   ·rw [if_neg e]
    by_cases h : a ≤ j
    ·obtain ⟨t, rfl⟩ : ∃ t, j = a + 1 + t := ⟨j - a - 1, by omega⟩
     rw [if_pos (by omega), if_pos h, Nat.add_sub_cancel_left, show a + 1 + t - a = t + 1 from by omega, ← tl_cut]; rfl
    ·rw [if_neg (by omega), if_neg h]
  ·rw [List.set_eq_of_length_le (by rw [tb_length]; omega), ih]
   refine tb_congr fun j hj => ?_
   rw [if_neg (by omega), if_neg (by omega)]
theorem tout_tb (m n : Nat) (q : PS) (k : Nat) : ∀ (p : PS) (a : Nat) (out : PS), Hand.tout (tb m q) (tb k p) a (tb n out) = tb n (fun j => out j + (if a ≤ j then cv (j - a) (cut k p) (cut m q) else 0)) := by
 induction k with
 | zero =>
  intro p a out
  show tb n out = _
  refine tb_congr fun j _ => ?_
  rw [cut_zero]
  split
  ·rw [cv_zero_left, Rs.GF.add_zero]
  ·rw [Rs.GF.add_zero]
 | succ k ih =>
  intro p a out
  rw [tb_succ]
  show Hand.tout (tb m q) (tb k (tl p)) (a + 1) (Hand.tin _ (tb m q) a (tb n out)) = _
  rw [tin_tb, ih]
  refine tb_congr fun j _ => ?_
  by_cases h : a ≤ j
  ·rw [if_pos h, if_pos h]
   by_cases e : j = a
   ·subst e
    rw [if_neg (by omega), Rs.GF.add_zero, Nat.sub_self]; rfl
   ·obtain ⟨t, rfl⟩ : ∃ t, j = a + 1 + t := ⟨j - a - 1, by omega⟩
    rw [if_pos (by omega), show a + 1 + t - a = t + 1 from by omega, show a + 1 + t - (a + 1) = t from by omega, Rs.GF.add_assoc, ← tl_cut]; rfl
  ·rw [if_neg h, if_neg h, if_neg (by omega), Rs.GF.add_zero]
theorem timesG (k m n : Nat) (p q : PS) (hk : k ≤ 100000) (hm : m ≤ 100000) (hn : n ≤ 100000) : Hand.label_times.f (tb k p) (tb m q) (n : Int) = some (tb n (fun j => cv j (cut k p) (cut m q))) := by
 unfold Hand.label_times.f
 rw [if_pos ⟨by omega, by omega, by rw [tb_length]; omega, by rw [tb_length]; omega, tb_bytes _ _, tb_bytes _ _⟩, Int.toNat_natCast, tb_zero, tout_tb]
 congr 1
 refine tb_congr fun j _ => ?_
 rw [if_pos (Nat.zero_le _), Nat.sub_zero, Rs.GF.zero_add]
open Rs (PS GF hv gen gen_zero gen_deg nx en cut wd cv cv_congr cv_comm cv_zero_left cv_add_left cv_smul_left st sh tl loc als cnt)
open Rs.GF (al)
theorem cv_two (a b : GF) (g : PS) (k : Nat) : cv k (cut 2 (fun j => if j = 0 then a else b)) g = a * g k + b * sh g k := by
 cases k with
 | zero => show a * g 0 = a * g 0 + b * 0; rw [Rs.GF.mul_zero, Rs.GF.add_zero]
 | succ k =>
  show a * g (k + 1) + cv k (tl (cut 2 (fun j => if j = 0 then a else b))) g = a * g (k + 1) + b * g k
  rw [tl_cut, Rs.cv_first k _ _ (fun i h _ => .inl (by unfold cut; rw [if_neg (by omega)]))]
  rfl
def gup (p : Nat) : PS := fun k => gen p (p - k)
theorem gup_step (i j : Nat) (h : j < i + 2) : cv j (cut (i + 1) (gup i)) (cut 2 (fun j => if j = 0 then al i else 1)) = gup (i + 1) j := by
 rw [cv_comm, cv_two, Rs.GF.one_mul]
 show _ = st (al i) (gen i) (i + 1 - j)
 unfold st
 cases j with
 | zero =>
  show al i * cut (i + 1) (gup i) 0 + 0 = gen i (i + 1) + al i * gen i i
  rw [Rs.GF.add_zero, gen_deg i (i + 1) (by omega), Rs.GF.zero_add]
  unfold cut; rw [if_pos (by omega)]; rfl
 | succ j =>
  show al i * cut (i + 1) (gup i) (j + 1) + cut (i + 1) (gup i) j = gen i (i + 1 - (j + 1)) + al i * sh (gen i) (i + 1 - (j + 1))
  have e1 : cut (i + 1) (gup i) j = gen i (i + 1 - (j + 1)) := by unfold cut gup; rw [if_pos (by omega)]; congr 1; omega
  rw [e1, Rs.GF.add_comm]
  congr 1
  by_cases e : j = i
  ·subst e
   rw [show j + 1 - (j + 1) = 0 from by omega]
   show al j * cut (j + 1) (gup j) (j + 1) = al j * 0
   unfold cut; rw [if_neg (by omega)]
  ·rw [show i + 1 - (j + 1) = (i - (j + 1)) + 1 from by omega]
   show al i * cut (i + 1) (gup i) (j + 1) = al i * gen i (i - (j + 1))
   unfold cut; rw [if_pos (by omega)]; rfl
theorem generator_l0 (p m : Nat) (hp : p ≤ 1000) : ∀ i, i + m = p → Ev (fun k => label_generator.l0 k (tb (i + 1) (gup i)) (p : Int) (i : Int)) (tb (p + 1) (gup p)) := by
 induction m with
 | zero =>
  intro i hi
  obtain rfl : i = p := by omega
  refine Ev.step (f := fun k => _) (fun k => by rw [label_generator.l0]) ?_
  exact Ev.neg (by omega) (Ev.now _)
 | succ m ih =>
  intro i hi
  refine Ev.step (f := fun k => _) (fun k => by rw [label_generator.l0]) ?_
  refine Ev.pos (by omega) (Ev.bind' (expG i (by omega)) ?_)
  have e := timesG (i + 1) 2 (i + 2) (gup i) (fun j => if j = 0 then al i else 1) (by omega) (by omega) (by omega)
  rw [tb_congr (fun j hj => gup_step i j hj)] at e
  refine Ev.bind' (a := tb (i + 2) (gup (i + 1))) ?_ ?_
  ·rw [w64 (by omega) (by omega), show (i : Int) + 2 = ((i + 2 : Nat) : Int) from by omega]; exact e
  ·rw [w64 (by omega) (by omega), show (i : Int) + 1 = ((i + 1 : Nat) : Int) from by omega]
   exact ih (i + 1) (by omega)
theorem generatorG (p : Nat) (hp : p ≤ 1000) : Ev (fun k => label_generator.f k (p : Int)) (tb (p + 1) (gup p)) := by
 unfold label_generator.f
 have e : ([1] : List Int) = tb 1 (gup 0) := rfl
 rw [e]; exact generator_l0 p p hp 0 (by omega)
theorem encK_tb (p i N : Nat) (c : GF) (m : Nat) : ∀ (k : Nat) (R : PS), k + m = p → i + 1 + p ≤ N →
  encK (tb (p + 1) (gup p)) p i ((c.v : Nat) : Int) m k (tb N R) = tb N (fun j => if i + 1 + k ≤ j then R j + c * gen p (j - i) else R j) := by
 induction m with
 | zero =>
  intro k R hk hN
  show tb N R = _
  refine tb_congr fun j _ => ?_
  split
  ·rw [gen_deg p (j - i) (by omega), Rs.GF.mul_zero, Rs.GF.add_zero]
  ·rfl
 | succ m ih =>
  intro k R hk hN
  show encK _ p i _ m (k + 1) ((tb N R).set (i + 1 + k) (Go.bits .xor .u8 (rd (tb N R) (i + 1 + k : Nat)) (Rs.mulN ((c.v : Nat) : Int).toNat (rd (tb (p + 1) (gup p)) (p - 1 - k : Nat)).toNat : Nat))) = _
  rw [tb_rd N R _ (by omega), tb_rd (p + 1) (gup p) _ (by omega), Int.toNat_natCast, Int.toNat_natCast, ← Rs.GF.v_mul, xor8G, tb_set, ih (k + 1) _ (by omega) hN]
  refine tb_congr fun j _ => ?_
  by_cases e : j = i + 1 + k
  ·subst e
   rw [if_pos rfl, if_neg (by omega), if_pos (Nat.le_refl _)]
   unfold gup; rw [show p - (p - 1 - k) = i + 1 + k - i from by omega]
  ·rw [if_neg e]
   by_cases h : i + 1 + k ≤ j
   ·rw [if_pos h, if_pos (by omega)]
   ·rw [if_neg h, if_neg (by omega)]
theorem encI_tb (p n : Nat) (m : Nat) : ∀ (i : Nat) (R : PS), i + m = n →
  ∃ R', encI (tb (p + 1) (gup p)) p m i (tb (n + p) R) = tb (n + p) R' ∧ ∀ t, R' (n + t) = en (gen p) m (fun j => R (i + j)) t := by
 induction m with
 | zero => intro i R hi; exact ⟨R, rfl, fun t => by rw [show n = i from by omega]; rfl⟩
 | succ m ih =>
  intro i R hi
  obtain ⟨R', h1, h2⟩ := ih (i + 1) (fun j => if i + 1 + 0 ≤ j then R j + R i * gen p (j - i) else R j) (by omega)
  refine ⟨R', ?_, fun t => ?_⟩
  ·show encI _ p m (i + 1) (encK _ p i (rd (tb (n + p) R) i) p 0 (tb (n + p) R)) = _
   rw [tb_rd _ R i (by omega), encK_tb p i (n + p) (R i) p 0 R (by omega) (by omega)]
   exact h1
  ·rw [h2 t]
   show en (gen p) m _ t = en (gen p) m (nx (gen p) (fun j => R (i + j))) t
   refine Rs.en_congr _ _ _ _ (fun j => ?_) t
   show (if i + 1 + 0 ≤ i + 1 + j then R (i + 1 + j) + R i * gen p (i + 1 + j - i) else R (i + 1 + j)) = R (i + (j + 1)) + R (i + 0) * gen p (j + 1)
   rw [if_pos (by omega), show i + 1 + j - i = j + 1 from by omega, show i + (j + 1) = i + 1 + j from by omega]; rfl
theorem start_tb (n p : Nat) (f : PS) : tb n f ++ List.replicate p (0 : Int) = tb (n + p) (cut n f) := by
 rw [tb_zero, tb_append]; rfl
theorem wd_tb (n p : Nat) (f R : PS) (h : ∀ t, R (n + t) = en (gen p) n (cut n f) t) : tb n f ++ (tb (n + p) R).drop n = tb (n + p) (wd n p f) := by
 rw [tb_drop, tb_append]
 refine tb_congr fun j _ => ?_
 unfold wd
 split
 ·rfl
 ·rw [h (j - n)]
theorem parG (n p : Nat) (hp : p ≤ 64) : label_isParameters.f (n : Int) (p : Int) = some (decide (p < n ∧ n ≤ 255)) := by
 unfold label_isParameters.f
 rw [if_pos (by omega), if_pos (by omega), w64 (by omega) (by omega)]
 by_cases h : p < n
 ·rw [if_pos (by omega)]; congr 1; exact decide_eq_decide.2 (by omega)
 ·rw [if_neg (by omega)]; congr 1; exact (decide_eq_false (by omega)).symm
theorem EncodeG (n p : Nat) (f : PS) (hn : 0 < n) (hp : p ≤ 64) (hN : n + p ≤ 255) : Ev (fun k => label_Encode.f k (strOfNums (tb n f)) (p : Int)) (strOfNums (tb (n + p) (wd n p f)), 0) := by
 unfold label_Encode.f
 refine Ev.neg (by omega) (Ev.neg (by omega) ?_)
 rw [str_size, w64 (by omega) (by omega), show (n : Int) + p = ((n + p : Nat) : Int) from by omega]
 refine Ev.bind' (parG (n + p) p hp) (Ev.pos (decide_eq_true (by omega)) (Ev.bind (generatorG p (by omega)) ?_))
 refine Ev.pos ⟨tb_bytes _ _, by rw [tb_length]; omega, by omega, hn⟩ ?_
 obtain ⟨R, h1, h2⟩ := encI_tb p n n 0 (cut n f) (by omega)
 rw [Int.toNat_natCast, bytes_tb, start_tb, h1, ← str_append, wd_tb n p f R (fun t => by rw [h2 t]; exact Rs.en_congr _ _ _ _ (fun j => by rw [Nat.zero_add]) t)]
 exact Ev.now _
open Rs (PS GF hv gen nx en cut wd cv st sh tl loc als cnt)
open Rs.GF (al)
def sy (n : Nat) (f : PS) : PS := fun i => hv n f (al i)
def zB (n : Nat) (f : PS) : Bool := (List.range n).all fun j => decide (f j = 0)
theorem zB_iff (n : Nat) (f : PS) : zB n f = true ↔ ∀ j, j < n → f j = 0 := by
 unfold zB
 rw [List.all_eq_true]
 exact ⟨fun h j hj => of_decide_eq_true (h j (List.mem_range.2 hj)), fun h j hj => decide_eq_true (h j (List.mem_range.1 hj))⟩
theorem zB_false {n : Nat} {f : PS} {j : Nat} (hj : j < n) (h : f j ≠ 0) : zB n f = false := by
 cases e : zB n f with
 | false => rfl
 | true => exact absurd ((zB_iff n f).1 e j hj) h
theorem v0 (a : GF) : ((a.v : Nat) : Int) = 0 ↔ a = 0 := by
 constructor
 ·intro h; exact Rs.GF.ext (by show a.v = 0; omega)
 ·rintro rfl; rfl
theorem zero_l0 (n : Nat) (f : PS) (hn : n ≤ 100000) (m : Nat) : ∀ i, i + m = n → (∀ j, j < i → f j = 0) → Ev (fun k => label_zero.l0 k (tb n f) (n : Int) (i : Int)) (zB n f) := by
 induction m with
 | zero =>
  intro i hi h
  obtain rfl : i = n := by omega
  refine Ev.step (f := fun k => _) (fun k => by rw [label_zero.l0]) ?_
  rw [(zB_iff i f).2 h]
  exact Ev.neg (by omega) (Ev.now _)
 | succ m ih =>
  intro i hi h
  refine Ev.step (f := fun k => _) (fun k => by rw [label_zero.l0]) ?_
  refine Ev.pos (by omega) (Ev.pos (by omega) (Ev.pos (by rw [tb_length]; omega) ?_))
  rw [tb_rd n f i (by omega)]
  by_cases h0 : f i = 0
  ·refine Ev.pos ((v0 _).2 h0) ?_
   rw [w64 (by omega) (by omega)]
   exact ih (i + 1) (by omega) (fun j hj => by
    by_cases e : j = i
    ·rw [e]; exact h0
    ·exact h j (by omega))
  ·rw [zB_false (show i < n by omega) h0]
   exact Ev.neg (fun e => h0 ((v0 _).1 e)) (Ev.now _)
theorem zeroG (n : Nat) (f : PS) (hn : n ≤ 100000) : Ev (fun k => label_zero.f k (tb n f)) (zB n f) := by
 unfold label_zero.f
 rw [tb_length]; exact zero_l0 n f hn n 0 (by omega) (fun j hj => by omega)
theorem syn_l1 (n p i : Nat) (f : PS) (r : List Int) (hi : i < p) (hp : p ≤ 1000) (hn : n ≤ 100000) (m : Nat) : ∀ (t : Nat) (out : PS), t + m = n → out i = hv t f (al i) →
  Ev (fun k => label_syndromes.l0 k (tb n f) (tb p (fun j => if j = i then hv n f (al i) else out j)) (p : Int) ((i + 1 : Nat) : Int)) r →
  Ev (fun k => label_syndromes.l1 k (tb n f) (tb p out) (i : Int) (p : Int) (i : Int) (tb n f) (n : Int) (t : Int)) r := by
 induction m with
 | zero =>
  intro t out ht ho h
  obtain rfl : t = n := by omega
  refine Ev.step (f := fun k => _) (fun k => by rw [label_syndromes.l1]) ?_
  refine Ev.neg (by omega) ?_
  rw [w64 (by omega) (by omega), show (i : Int) + 1 = ((i + 1 : Nat) : Int) from by omega]
  rw [tb_congr (n := p) (f := fun j => if j = i then hv t f (al i) else out j) (g := out) (fun j _ => by
   by_cases e : j = i
   ·rw [if_pos e, e, ho]
   ·rw [if_neg e])] at h
  exact h
 | succ m ih =>
  intro t out ht ho h
  refine Ev.step (f := fun k => _) (fun k => by rw [label_syndromes.l1]) ?_
  rw [w64 (n := (t : Int) + 1) (by omega) (by omega)]
  refine Ev.pos (by omega) (Ev.pos (by omega) (Ev.pos (by rw [tb_length]; omega) (Ev.pos (by omega) (Ev.pos (by rw [tb_length]; omega) (Ev.bind' (expG i (by omega)) ?_)))))
  rw [tb_rd p out i hi, tb_rd n f t (by omega), Int.toNat_natCast]
  refine Ev.bind' (mulG (out i) (al i)) ?_
  rw [xor8G, tb_set]
  refine ih (t + 1) _ (by omega) (by rw [if_pos rfl, Rs.hv_horner, ho]) ?_
  rw [tb_congr (n := p) (f := fun j => if j = i then hv n f (al i) else (if j = i then out i * al i + f t else out j)) (g := fun j => if j = i then hv n f (al i) else out j) (fun j _ => by
   by_cases e : j = i
   ·rw [if_pos e, if_pos e]
   ·rw [if_neg e, if_neg e, if_neg e])]
  exact h
theorem syn_l0 (n p : Nat) (f : PS) (hp : p ≤ 1000) (hn : n ≤ 100000) (m : Nat) : ∀ (i : Nat), i + m = p →
  Ev (fun k => label_syndromes.l0 k (tb n f) (tb p (fun j => if j < i then sy n f j else 0)) (p : Int) (i : Int)) (tb p (sy n f)) := by
 induction m with
 | zero =>
  intro i hi
  obtain rfl : i = p := by omega
  refine Ev.step (f := fun k => _) (fun k => by rw [label_syndromes.l0]) ?_
  refine Ev.neg (by omega) ?_
  rw [tb_congr (n := i) (f := fun j => if j < i then sy n f j else 0) (g := sy n f) (fun j hj => if_pos hj)]
  exact Ev.now _
 | succ m ih =>
  intro i hi
  refine Ev.step (f := fun k => _) (fun k => by rw [label_syndromes.l0]) ?_
  refine Ev.pos (by omega) ?_
  rw [tb_length]
  refine syn_l1 n p i f _ (by omega) hp hn n 0 _ (by omega) (by rw [if_neg (by omega)]; rfl) ?_
  have e := ih (i + 1) (by omega)
  rw [tb_congr (n := p) (f := fun j => if j < i + 1 then sy n f j else 0) (g := fun j => if j = i then hv n f (al i) else (if j < i then sy n f j else 0)) (fun j _ => by
   by_cases e : j = i
   ·subst e; rw [if_pos (by omega), if_pos rfl]; rfl
   ·rw [if_neg e]
    by_cases h : j < i
    ·rw [if_pos h, if_pos (by omega)]
    ·rw [if_neg h, if_neg (by omega)])] at e
  exact e
theorem synG (n p : Nat) (f : PS) (hp : p ≤ 1000) (hn : n ≤ 100000) : Ev (fun k => label_syndromes.f k (tb n f) (p : Int)) (tb p (sy n f)) := by
 unfold label_syndromes.f
 refine Ev.pos (by omega) (Ev.pos (by omega) (Ev.bind' rfl ?_))
 rw [List.length_replicate, Int.toNat_natCast, tb_zero]
 exact syn_l0 n p f hp hn p 0 (by omega)
end Go.Proofs.YtiioklboaookiaaGreatDoor.Pure
