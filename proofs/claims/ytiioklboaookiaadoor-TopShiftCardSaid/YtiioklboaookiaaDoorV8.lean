/- A part of the proof: what the law's row needs. -/
import Derived.Deep.QuietTactic
import Derived.BigQuiet
import Derived.Test.YtiioklboaookiaaDoorV7
namespace Go.Proofs.YtiioklboaookiaaDoor.Q
open Go.RowKit Go.Proofs.YtiioklboaookiaaDoorW.PrintWords Go.Proofs.YtiioklboaookiaaDoorW.PrintLast Go.Proofs.YtiioklboaookiaaDoor.Hand Go.Proofs.YtiioklboaookiaaDoorW.PrintMore
attribute [local go_sem] max2_int min2_int max_two min_two max_three min_three max_four min_four
set_option linter.unusedVariables false
set_option linter.unusedSimpArgs false
theorem lt_big {n : Nat} (h : n ≤ 8192) : n < 3518437208883 := Nat.lt_of_le_of_lt h (by decide)
set_option maxHeartbeats 8000000 in
theorem boxes_read (l : List S34) (P : List S72) (hP : P.length ≤ 8192) : ∀ (k x y i : Nat) (s ar : Int) (i' : Nat) (s' ar' : Int) (X Y : Nat) (B : Int), readF l P k x y i s ar = some (i', s', ar') → x < 49 → y < 49 → X + x ≤ 1000 → Y + y ≤ 1000 →
  ∃ L, silversidetop_boxes.f (3 * k) X Y x y B l P i = some (L, (i' : Int)) ∧ i + L.length ≤ i' ∧ i' ≤ P.length ∧ ∀ b, b ∈ L → -1 ≤ b.f4 ∧ b.f4 < (l.length : Int)
 | 0, x, y, i, s, ar, i', s', ar', X, Y, B, h, _, _, _, _ => by simp [readF] at h
 | k + 1, x, y, i, s, ar, i', s', ar', X, Y, B, h, hx, hy, hX, hY => by
  unfold readF at h
  by_cases hi : i < P.length
  ·rw [if_pos hi] at h
   dsimp only at h
   obtain ⟨m, hm⟩ : ∃ m, m = 3 * k + 2 := ⟨_, rfl⟩
   rw [show 3 * (k + 1) = m + 1 by omega]
   have w1 : wrap64 ((i : Int) + 1) = ((i + 1 : Nat) : Int) := by rw [w64_in _ (by omega) (by omega)]; omega
   unfold silversidetop_boxes.f
   rw [if_neg (show ¬ ((i : Int) ≥ (P.length : Int)) by omega), if_pos (show (0 : Int) ≤ (i : Int) by omega), if_pos (show (i : Int) < (P.length : Int) by omega), w1]
   obtain ⟨t, ht⟩ : ∃ t, t = rd_T72 P (i : Int) := ⟨_, rfl⟩
   rw [← ht] at h ⊢
   clear ht w1
   by_cases h0 : t.f0 = 0
   ·rw [if_pos h0] at h ⊢
    by_cases h1 : t.f1 = 0
    ·rw [if_pos h1] at h
     obtain ⟨rfl, _⟩ := Prod.mk.inj (Option.some.inj h)
     exact ⟨_, rfl, Nat.le_refl _, hi, fun b hb => by rw [List.mem_singleton.1 hb]; exact ⟨Int.le_refl _, by show (-1 : Int) < (l.length : Int); omega⟩⟩
    ·rw [if_neg h1] at h; cases h
   ·rw [if_neg h0] at h ⊢
    by_cases h1 : t.f0 = 1
    ·rw [if_pos h1] at h ⊢
     by_cases h2 : 0 ≤ t.f1 ∧ t.f1 < (l.length : Int)
     ·rw [if_pos h2] at h
      split at h
      ·obtain ⟨rfl, _⟩ := Prod.mk.inj (Option.some.inj h)
       rw [if_neg (show ¬ t.f1 < 0 by omega), if_neg (show ¬ t.f1 ≥ (l.length : Int) by omega)]
       exact ⟨_, rfl, Nat.le_refl _, hi, fun b hb => by rw [List.mem_singleton.1 hb]; exact ⟨by show (-1 : Int) ≤ t.f1; omega, h2.2⟩⟩
      ·cases h
     ·rw [if_neg h2] at h; cases h
    ·rw [if_neg h1] at h ⊢
     by_cases h2 : t.f0 = 2
     ·rw [if_pos h2] at h ⊢
      by_cases h3 : 1 ≤ t.f1 ∧ t.f1 < (x : Int)
      ·rw [if_pos h3] at h
       obtain ⟨a, ha⟩ := Int.eq_ofNat_of_zero_le (show 0 ≤ t.f1 by omega)
       rw [ha, Int.toNat_natCast] at h
       obtain ⟨⟨i1, s1, ar1⟩, g1, g2⟩ := Option.bind_eq_some_iff.1 h
       dsimp only at g2
       obtain ⟨L1, e1, e2, e3, e4⟩ := boxes_read l P hP k a y (i + 1) s ar i1 s1 ar1 X Y B g1 (by omega) hy (by omega) hY
       obtain ⟨L2, f1, f2, f3, f4⟩ := boxes_read l P hP k (x - a) y i1 s1 ar1 i' s' ar' (X + a) Y B g2 (by omega) hy (by omega) hY
       have u1 : wrap64 ((X : Int) + (a : Int)) = ((X + a : Nat) : Int) := by rw [w64_in _ (by omega) (by omega)]; omega
       have u2 : wrap64 ((x : Int) - (a : Int)) = ((x - a : Nat) : Int) := by rw [w64_in _ (by omega) (by omega)]; omega
       have u3 : wrap64 ((i : Int) + 1) = ((i + 1 : Nat) : Int) := by rw [w64_in _ (by omega) (by omega)]; omega
       rw [if_pos (show t.f1 > 0 by omega), decide_eq_true h3.2, ha, hm]
       unfold silversidetop_boxes.j0
       rw [if_pos rfl, u1, u2]
       unfold silversidetop_boxes.j1
       rw [u3, e1, Option.bind_some]
       dsimp only
       clear u1 u2 u3
       rw [if_neg (show ¬ (i1 : Int) < 0 by omega), f1, Option.bind_some]
       dsimp only
       rw [if_pos (lt_big (show L1.length + L2.length ≤ 8192 by omega))]
       exact ⟨_, rfl, by rw [List.length_append]; omega, f3, fun b hb => (List.mem_append.1 hb).elim (e4 b) (f4 b)⟩
      ·rw [if_neg h3] at h; cases h
     ·rw [if_neg h2] at h ⊢
      by_cases h4 : t.f0 = 3
      ·rw [if_pos h4] at h
       by_cases h3 : 1 ≤ t.f1 ∧ t.f1 < (y : Int)
       ·rw [if_pos h3] at h
        obtain ⟨a, ha⟩ := Int.eq_ofNat_of_zero_le (show 0 ≤ t.f1 by omega)
        rw [ha, Int.toNat_natCast] at h
        obtain ⟨⟨i1, s1, ar1⟩, g1, g2⟩ := Option.bind_eq_some_iff.1 h
        dsimp only at g2
        obtain ⟨L1, e1, e2, e3, e4⟩ := boxes_read l P hP k x a (i + 1) s ar i1 s1 ar1 X Y B g1 hx (by omega) hX (by omega)
        obtain ⟨L2, f1, f2, f3, f4⟩ := boxes_read l P hP k x (y - a) i1 s1 ar1 i' s' ar' X (Y + a) B g2 hx (by omega) hX (by omega)
        have u1 : wrap64 ((Y : Int) + (a : Int)) = ((Y + a : Nat) : Int) := by rw [w64_in _ (by omega) (by omega)]; omega
        have u2 : wrap64 ((y : Int) - (a : Int)) = ((y - a : Nat) : Int) := by rw [w64_in _ (by omega) (by omega)]; omega
        have u3 : wrap64 ((i : Int) + 1) = ((i + 1 : Nat) : Int) := by rw [w64_in _ (by omega) (by omega)]; omega
        rw [hm]
        unfold silversidetop_boxes.j0
        rw [if_neg Bool.false_ne_true, if_pos h4, if_pos (show t.f1 > 0 by omega), if_pos h3.2, ha, u1, u2]
        unfold silversidetop_boxes.j1
        rw [u3, e1, Option.bind_some]
        dsimp only
        clear u1 u2 u3
        rw [if_neg (show ¬ (i1 : Int) < 0 by omega), f1, Option.bind_some]
        dsimp only
        rw [if_pos (lt_big (show L1.length + L2.length ≤ 8192 by omega))]
        exact ⟨_, rfl, by rw [List.length_append]; omega, f3, fun b hb => (List.mem_append.1 hb).elim (e4 b) (f4 b)⟩
       ·rw [if_neg h3] at h; cases h
      ·rw [if_neg h4] at h; cases h
  ·rw [if_neg hi] at h; cases h
set_option maxHeartbeats 8000000 in
set_option maxRecDepth 100000 in
theorem planned_walk (W H : Nat) (A0 : Option Addr) (c0 : Nat) (l : List S34) (w : World) (hW0 : 1 ≤ W) (hW : W < 49) (hH0 : 1 ≤ H) (hH : H < 49) (hl : l.length ≤ 16) (hr : Kd.C k34 w A0 l.length l) (hc : l.length ≤ c0) (hv : ∀ x, x ∈ l → blankOk x = true) :
  Calls Tryd.prog 5 #[.agg #[.int .i64 W, .int .i64 H, .slice A0 l.length c0]] w fun e w' => ∃ v n L, e = .returned (.tuple #[v, .int .i64 n, .bool true]) ∧ Kd.R k32 32 w' w.heap.size (fun _ => True) v L ∧ L.length ≤ 8192 ∧ (∀ b, b ∈ L → -1 ≤ b.f4 ∧ b.f4 < (l.length : Int)) ∧ Below w.heap.size w w' := by
 obtain ⟨r, hp, hrl, hr0, hsb, s, ar, hrd⟩ := best_plan l hl W H hW0 hW hH0 hH
 obtain ⟨L, hbx, hbl, _, hbb⟩ := boxes_read l r hrl 98 W H 0 0 0 r.length s ar 0 0 0 hrd hW hH (by omega) (by omega)
 have HR := Aside0.mk hr
 have HV := hid hv
 have HP := hid hp
 have HRD := hid hrd
 have HBX := hid hbx
 have HBB := hid hbb
 have HBN := hid (show L.length ≤ 8192 by omega)
 clear hr hv hp hsb hrd hbx hbb hbl
 go_enter Tryd.func5, Tryd.ntmps5
 go_wp2_with (fail)
 obtain ⟨W2, hW2⟩ : ∃ W2, W2 = w.alloc (.cells #[.int .i64 W, .int .i64 H, .slice A0 l.length c0] 24) := ⟨_, rfl⟩
 obtain ⟨tb, htb⟩ : ∃ tb, tb = w.heap.size := ⟨_, rfl⟩
 have HA2 := hid (show W2.heap[tb]? = some (.cells #[.int .i64 W, .int .i64 H, .slice A0 l.length c0] 24 (0, 0)) by rw [hW2, htb]; exact blk_new _ _)
 have HB2 := Aside0.mk (show Below w.heap.size w W2 by rw [hW2]; exact below_alloc (Below.refl _ _) _)
 have HR2 := Aside0.mk (Kd.C_below HR.out HB2.out)
 rw [← hW2]
 try rw [← htb]
 clear hW2 htb
 refine (Best_walk 98 W H A0 c0 l r W2 hW0 hW hH0 hH hl HR2.out HV.out HP.out).mono ?_
 rintro e w3 ⟨v0, v1, rfl, hr3, hb3⟩
 obtain ⟨A3, c3, e3⟩ := Kd.R_slice hr3
 subst e3
 have HC3 := Aside0.mk (Kd.R_reads' hr3).2.2
 have hc3 := (Kd.R_reads' hr3).2.1
 have HA3 := hid (show w3.heap[tb]? = some (.cells #[.int .i64 W, .int .i64 H, .slice A0 l.length c0] 24 (0, 0)) from (hb3.block tb (lt_of_some HA2.out)).trans HA2.out)
 have HR3 := Aside0.mk (Kd.C_below HR2.out hb3)
 have HB3 := Aside0.mk (HB2.out.trans (hb3.mono HB2.out.size))
 have HC := hid hc3
 clear hr3 hb3 hc3 HA2 HR2 HB2
 have z0 : w3.cell? ⟨tb, 0, none⟩ = some (.int .i64 W) := by simp [World.cell?, HA3.out]
 have z1 : w3.cell? ⟨tb, 1, none⟩ = some (.int .i64 H) := by simp [World.cell?, HA3.out]
 have z2 : w3.cell? ⟨tb, 2, none⟩ = some (.slice A0 l.length c0) := by simp [World.cell?, HA3.out]
 have HW1 := hid (Worth_walk 98 W H A0 c0 l A3 c3 r s ar w3 hW0 hW hH0 hH hrl hl HC3.out HR3.out HV.out HRD.out)
 go_wp2_with (fail)
 refine HW1.out.mono ?_
 rintro e w4 ⟨rfl, hb⟩
 have HB4 := Aside0.mk (HB3.out.trans (hb.mono HB3.out.size))
 have HA4 := hid (show w4.heap[tb]? = some (.cells #[.int .i64 W, .int .i64 H, .slice A0 l.length c0] 24 (0, 0)) from (hb.block tb (lt_of_some HA3.out)).trans HA3.out)
 have HX := hid (silversidetop_boxes.calls (3 * 98) 0 0 W H 0 A0 c0 l A3 c3 r 0 L r.length w4 (Kd.C_below HR3.out hb) hc (Kd.C_below HC3.out hb) HC.out HBX.out)
 clear hb HW1 HA3 HR3 HB3 HC3 HC z0 z1 z2
 have z0 : w4.cell? ⟨tb, 0, none⟩ = some (.int .i64 W) := by simp [World.cell?, HA4.out]
 have z1 : w4.cell? ⟨tb, 1, none⟩ = some (.int .i64 H) := by simp [World.cell?, HA4.out]
 have z2 : w4.cell? ⟨tb, 2, none⟩ = some (.slice A0 l.length c0) := by simp [World.cell?, HA4.out]
 go_wp2_with (fail)
 refine HX.out.mono ?_
 rintro e w5 ⟨v5, rfl, hr5, hb5⟩
 have HB5 := Aside0.mk (HB4.out.trans (hb5.mono HB4.out.size))
 have HR5 := Aside0.mk (Kd.R_lower hr5 HB4.out.size)
 clear hr5 hb5 HX HB4 HA4 z0 z1 z2
 go_wp2_with (fail)
 go_ret3
 exact ⟨_, _, L, rfl, HR5.out, HBN.out, HBB.out, HB5.out⟩
end Go.Proofs.YtiioklboaookiaaDoor.Q
namespace Go.Proofs.YtiioklboaookiaaDoor.Q
open Go.RowKit Go.Proofs.YtiioklboaookiaaDoorW.PrintWords Go.Proofs.YtiioklboaookiaaDoorW.PrintLast Go.Proofs.YtiioklboaookiaaDoor.Hand Go.Proofs.YtiioklboaookiaaDoorW.PrintMore
attribute [local go_sem] max2_int min2_int max_two min_two max_three min_three max_four min_four
set_option linter.unusedVariables false
set_option linter.unusedSimpArgs false
theorem infoJobS : (Tryd.prog.info? 36).map (fun i => (i.zero, i.size, i.bytes)) = some (some (.agg #[.int .i64 0, .int .i64 0, .int .i64 0]), 3, 24) := by kernel_rfl
def jobF (l : List S34) (d : Int) (b : S32) : S34 := ⟨0, d, (rd_T34 l b.f4).f0 * (rd_T34 l b.f4).f1⟩
def allF (l : List S34) (d : Int) (L : List S32) : List S34 := L.flatMap fun b => if b.f4 < 0 then [] else [jobF l d b]
def largeF (d : Int) (l : List S34) : Bool := l.any fun j => decide (d < j.f2)
theorem allF_app (l : List S34) (d : Int) (L M : List S32) : allF l d (L ++ M) = allF l d L ++ allF l d M := by unfold allF; rw [List.flatMap_append]
theorem box_mem {L : List S32} (k : Nat) (h : k < L.length) : rd_T32 L (k : Int) ∈ L := by
 unfold rd_T32; rw [Int.toNat_natCast, List.getD_eq_getElem?_getD, List.getElem?_eq_getElem h]; exact List.getElem_mem h
theorem box_take (L : List S32) (k : Nat) (h : k < L.length) : L.take (k + 1) = L.take k ++ [rd_T32 L (k : Int)] := by
 rw [List.take_add_one, List.getElem?_eq_getElem h]
 unfold rd_T32
 rw [Int.toNat_natCast, List.getD_eq_getElem?_getD, List.getElem?_eq_getElem h]; rfl
theorem allF_waste (l : List S34) (d : Int) (L : List S32) (k : Nat) (h : k < L.length) (hn : (rd_T32 L (k : Int)).f4 < 0) : allF l d (L.take (k + 1)) = allF l d (L.take k) := by
 rw [box_take L k h, allF_app]
 show allF l d (L.take k) ++ ((if (rd_T32 L (k : Int)).f4 < 0 then [] else [jobF l d (rd_T32 L (k : Int))]) ++ []) = _
 rw [if_pos hn, List.append_nil, List.append_nil]
theorem allF_made (l : List S34) (d : Int) (L : List S32) (k : Nat) (h : k < L.length) (hn : ¬ (rd_T32 L (k : Int)).f4 < 0) : allF l d (L.take (k + 1)) = allF l d (L.take k) ++ [jobF l d (rd_T32 L (k : Int))] := by
 rw [box_take L k h, allF_app]
 show allF l d (L.take k) ++ ((if (rd_T32 L (k : Int)).f4 < 0 then [] else [jobF l d (rd_T32 L (k : Int))]) ++ []) = _
 rw [if_neg hn, List.append_nil]
theorem allF_len (l : List S34) (d : Int) : ∀ (L : List S32), (allF l d L).length ≤ L.length
 | [] => Nat.le_refl _
 | b :: L => by
  have h := allF_len l d L
  have e : allF l d (b :: L) = (if b.f4 < 0 then [] else [jobF l d b]) ++ allF l d L := rfl
  rw [e, List.length_append, List.length_cons]
  split <;> simp <;> omega
theorem workF_app (a b : List S34) : workF (a ++ b) = workF a + workF b := by unfold workF; rw [List.map_append, List.sum_append]
theorem workF_one (a : S34) : workF [a] = a.f2 := by unfold workF; simp
theorem largeF_app (d : Int) (a b : List S34) : largeF d (a ++ b) = (largeF d a || largeF d b) := by unfold largeF; rw [List.any_append]
theorem jobF_area (l : List S34) (d : Int) (b : S32) (hb : ∀ x, x ∈ l → blankIn 12 x) (h0 : ¬ b.f4 < 0) (h1 : b.f4 < (l.length : Int)) :
  1 ≤ (jobF l d b).f2 ∧ (jobF l d b).f2 ≤ 144 ∧ (jobF l d b).f2 = (rd_T34 l b.f4).f0 * (rd_T34 l b.f4).f1 := by
 obtain ⟨i, hi⟩ := Int.eq_ofNat_of_zero_le (show 0 ≤ b.f4 by omega)
 have hm : rd_T34 l b.f4 ∈ l := by rw [hi]; exact rd_mem i (by omega)
 obtain ⟨g1, g2, g3, g4, _, _⟩ := hb _ hm
 refine ⟨?_, ?_, rfl⟩
 ·show 1 ≤ (rd_T34 l b.f4).f0 * (rd_T34 l b.f4).f1
  have := Int.mul_le_mul g1 g3 (by omega) (by omega); omega
 ·show (rd_T34 l b.f4).f0 * (rd_T34 l b.f4).f1 ≤ 144
  have := Int.mul_le_mul g2 g4 (by omega) (by omega); omega
theorem allF_all (l : List S34) (d : Int) (L : List S32) (hb : ∀ x, x ∈ l → blankIn 12 x) (hL : ∀ b, b ∈ L → -1 ≤ b.f4 ∧ b.f4 < (l.length : Int)) : ∀ j, j ∈ allF l d L → j.f0 = 0 ∧ j.f1 = d ∧ 1 ≤ j.f2 ∧ j.f2 ≤ 144 := by
 intro j hj
 unfold allF at hj
 obtain ⟨b, hb1, hb2⟩ := List.mem_flatMap.1 hj
 split at hb2
 ·simp at hb2
 ·rename_i hn
  rw [List.mem_singleton.1 hb2]
  have h := jobF_area l d b hb hn (hL b hb1).2
  exact ⟨rfl, rfl, h.1, h.2.1⟩
theorem fewest_want (d : Int) (hd : 0 < d) (l : List S34) (h0 : 0 ≤ workF l) (n : Nat) (h : FewestIs (fun b => (∀ j, j ∈ l → j.f2 ≤ d) ∧ workF l ≤ b * d) n) :
  (n : Int) = if largeF d l = true ∨ 8 < (if 1 < (workF l + d - 1) / d then (workF l + d - 1) / d else 1) then 0 else (if 1 < (workF l + d - 1) / d then (workF l + d - 1) / d else 1) := by
 have hlg : largeF d l = true ↔ ¬ ∀ j, j ∈ l → j.f2 ≤ d := by
  unfold largeF
  rw [List.any_eq_true]
  constructor
  ·rintro ⟨j, hj, e⟩ h
   have := h j hj
   have := of_decide_eq_true e
   omega
  ·intro h
   refine Classical.byContradiction fun hn => h fun j hj => ?_
   refine Classical.byContradiction fun hc => hn ⟨j, hj, decide_eq_true (by omega)⟩
 have hq : ∀ b : Nat, workF l ≤ b * d ↔ (workF l + d - 1) / d ≤ b := fun b => by
  rw [Int.ediv_le_iff_le_mul hd]
  omega
 obtain ⟨Q, hQ⟩ : ∃ Q, Q = (workF l + d - 1) / d := ⟨_, rfl⟩
 rw [← hQ]
 simp only [hq, ← hQ] at h
 unfold FewestIs at h
 by_cases hl : ∀ j, j ∈ l → j.f2 ≤ d
 ·have hl2 : ¬ largeF d l = true := fun e => hlg.1 e hl
  rcases h with ⟨rfl, h⟩ | ⟨h1, h2, ⟨_, h3⟩, h4⟩
  ·have := h 8 (by omega) (by omega)
   have h8 : ¬ Q ≤ ((8 : Nat) : Int) := fun e => this ⟨hl, e⟩
   rw [if_pos (Or.inr (by split <;> omega))]; rfl
  ·have hn : ¬ (largeF d l = true ∨ 8 < (if 1 < Q then Q else 1)) := by
    rintro (e | e)
    ·exact hl2 e
    ·split at e <;> omega
   rw [if_neg hn]
   by_cases e : n = 1
   ·subst e; split <;> omega
   ·have h5 := h4 (n - 1) (by omega) (by omega)
    have h6 : ¬ Q ≤ ((n - 1 : Nat) : Int) := fun e => h5 ⟨hl, e⟩
    split <;> omega
 ·rw [if_pos (Or.inl (hlg.2 hl))]
  rcases h with ⟨rfl, _⟩ | ⟨_, _, ⟨h, _⟩, _⟩
  ·rfl
  ·exact absurd h hl
end Go.Proofs.YtiioklboaookiaaDoor.Q
namespace Go.Proofs.YtiioklboaookiaaDoor.Q
open Go.RowKit Go.Proofs.YtiioklboaookiaaDoorW.PrintWords Go.Proofs.YtiioklboaookiaaDoorW.PrintLast Go.Proofs.YtiioklboaookiaaDoor.Hand Go.Proofs.YtiioklboaookiaaDoorW.PrintMore
attribute [local go_sem] max2_int min2_int max_two min_two max_three min_three max_four min_four
set_option linter.unusedVariables false
set_option linter.unusedSimpArgs false
set_option maxHeartbeats 8000000 in
set_option maxRecDepth 100000 in
theorem shift_walk (W0 H0 : Int) (A0 : Option Addr) (c0 : Nat) (l : List S34) (due : Int) (w : World) (hr : Kd.C k34 w A0 l.length l) (hc : l.length ≤ c0) (hz : NoneAt w) :
  Calls Tryd.prog 3 #[.agg #[.int .i64 W0, .int .i64 H0, .slice A0 l.length c0], .int .i64 due] w fun e w' => e = .returned (.bool true) ∧ Below w.heap.size w w' := by
 obtain ⟨kt, W, H, r0, ht, hW0, hW, hH0, hH, hl0, hbl⟩ := task_spec 12 8 W0 H0 l (by omega) (by omega) (by omega)
 have hv : ∀ x, x ∈ r0 → blankOk x = true := fun x hx => (hbl x hx).ok (by omega)
 obtain ⟨j, hj, hjn⟩ := tmod_nat due 150 (by omega) (by omega)
 have HJ := hid hj
 have HTK := hid (silversidetop_task.calls kt W0 H0 A0 c0 l 12 8 W H r0 (w.alloc (.cells #[.int .i64 W0, .int .i64 H0, .slice A0 l.length c0] 24)) (Kd.C_below hr (below_alloc (Below.refl _ _) _)) hc ht)
 have HV := hid hv
 have HBLI := hid hbl
 have HZ := hid hz
 have HBX := Aside0.mk (below_alloc (Below.refl w.heap.size w) (.cells #[.int .i64 W0, .int .i64 H0, .slice A0 l.length c0] 24))
 clear hr hc hz ht hbl hv hj
 go_enter Tryd.func3, Tryd.ntmps3
 go_wp2_with (fail)
 refine HTK.out.mono ?_
 rintro e w1 ⟨v2, rfl, hr2, hb2⟩
 obtain ⟨A2, c2, e2⟩ := Kd.R_slice hr2
 subst e2
 have HR2 := Aside0.mk (Kd.R_reads' hr2).2.2
 have HC2 := hid (Kd.R_reads' hr2).2.1
 have HBW1 := Aside0.mk (HBX.out.trans (hb2.mono HBX.out.size))
 clear hr2 hb2 HTK HBX
 go_wp2_with (fail)
 obtain ⟨W2, hW2⟩ : ∃ W2, W2 = w1.alloc (.cells #[.int .i64 W, .int .i64 H, .slice A2 r0.length c2] 24) := ⟨_, rfl⟩
 have HA2 := hid (show W2.heap[w1.heap.size]? = some (.cells #[.int .i64 W, .int .i64 H, .slice A2 r0.length c2] 24 (0, 0)) by rw [hW2]; exact blk_new _ _)
 have HBW2 := Aside0.mk (show Below w.heap.size w W2 by rw [hW2]; exact below_alloc HBW1.out _)
 have HR22 := Aside0.mk (show Kd.C k34 W2 A2 r0.length r0 by rw [hW2]; exact Kd.C_below HR2.out (below_alloc (Below.refl _ _) _))
 obtain ⟨tb, htb⟩ : ∃ tb, tb = w1.heap.size := ⟨_, rfl⟩
 rw [← htb] at HA2
 rw [← hW2, ← htb]
 clear hW2 htb HBW1 HR2
 refine (planned_walk W H A2 c2 r0 W2 hW0 (by omega) hH0 (by omega) (by omega) HR22.out HC2.out HV.out).mono ?_
 rintro e w3 ⟨v3, n3, L, rfl, hr3, hL, hLb, hb3⟩
 obtain ⟨A3, c3, e3⟩ := Kd.R_slice hr3
 subst e3
 have HLB := hid hLb
 have HC3 := Aside0.mk (Kd.R_reads' hr3).2.2
 have HA3 := hid (show w3.heap[tb]? = some (.cells #[.int .i64 W, .int .i64 H, .slice A2 r0.length c2] 24 (0, 0)) from (hb3.block tb (lt_of_some HA2.out)).trans HA2.out)
 have HBL3 := Aside0.mk (Kd.C_below HR22.out hb3)
 have HBW3 := Aside0.mk (HBW2.out.trans (hb3.mono HBW2.out.size))
 clear hr3 hb3 HA2 HR22 HBW2 hLb
 go_wp2_with (fail)
 refine (silversidetop_mod.calls due 150 (j : Int) _ HJ.out).mono ?_
 rintro e w4 ⟨rfl, nd, rfl⟩
 obtain ⟨w5, hw5⟩ : ∃ w5, w5 = w3.drewN nd := ⟨_, rfl⟩
 have hb5 : Below w3.heap.size w3 w5 := by rw [hw5]; exact pw_below_drewN (Below.refl _ _) nd
 have HA5 := hid (show w5.heap[tb]? = some (.cells #[.int .i64 W, .int .i64 H, .slice A2 r0.length c2] 24 (0, 0)) from (hb5.block tb (lt_of_some HA3.out)).trans HA3.out)
 have HC5 := Aside0.mk (Kd.C_below HC3.out hb5)
 have HBL5 := Aside0.mk (Kd.C_below HBL3.out hb5)
 have HBW5 := Aside0.mk (HBW3.out.trans (hb5.mono HBW3.out.size))
 rw [← hw5]
 clear hw5 hb5 HA3 HC3 HBL3 HBW3
 go_wp2_with (fail)
 have HN0 := Aside0.mk (Kd.R_nil k34 36 w5 w5.heap.size (fun _ => True))
 go_loopg [10, 11, 12, 13] L.length (fun kq v10 v11 v12 v13 w' => ∃ (k : Nat) (S : Int) (lg : Bool), v13 = .int .i64 k ∧ v11 = .int .i64 S ∧ v12 = .bool lg ∧ k + kq = L.length ∧ 0 ≤ S ∧ S ≤ 144 * k ∧ Aside0 (S = workF (allF r0 (1 + j) (L.take k))) ∧ Aside0 (lg = largeF (1 + j) (allF r0 (1 + j) (L.take k))) ∧ Aside0 (Kd.R k34 36 w' w5.heap.size (fun _ => True) v10 (allF r0 (1 + j) (L.take k))) ∧ Aside0 (Below w5.heap.size w5 w'))
 case atStart => exact ⟨0, 0, false, rfl, rfl, rfl, by omega, by omega, by omega, ⟨rfl⟩, ⟨rfl⟩, HN0, ⟨Below.refl _ _⟩⟩
 case round =>
  clear HN0
  obtain ⟨k, S, lg, rfl, rfl, rfl, hk, hS0, hS1, HSE, HLG, HO, HB⟩ := hrel
  obtain ⟨A7, c7, eR⟩ := Kd.R_slice HO.out
  by_cases hlt : k < L.length
  ·have d1 : decide ((k : Int) < (L.length : Int)) = true := decide_eq_true (by omega)
   obtain ⟨ad, e0, hx0, hx1, hx2, hx3, hx4⟩ := at_T32 HC5.out (k : Int) (by omega) (by omega)
   rw [Int.toNat_natCast] at hx4
   replace hx4 := (HB.out.cell (World.block_lt_of_cell? _ _ hx4)).trans hx4
   cases e0
   clear hx0 hx1 hx2 hx3
   have hlt' : (k : Int) < (L.length : Int) := by omega
   have k0 : (0 : Int) ≤ (k : Int) := by omega
   have HWST := hid (allF_waste r0 (1 + j) L k hlt)
   have HMDE := hid (allF_made r0 (1 + j) L k hlt)
   have HLX := HLB.out _ (box_mem k hlt)
   have HLT := hid hlt
   obtain ⟨x, hx⟩ : ∃ x, x = rd_T32 L (k : Int) := ⟨_, rfl⟩
   rw [← hx] at hx4 HWST HMDE HLX
   clear hx hlt
   have HLN := hid (Nat.le_trans (allF_len r0 (1 + j) (L.take k)) (by rw [List.length_take]; omega : (L.take k).length ≤ 8192))
   by_cases hneg : x.f4 < 0
   ·have d2 : decide (x.f4 < 0) = true := decide_eq_true hneg
    have HE := hid (HWST.out hneg)
    clear HMDE HWST HLX hneg
    go_wp2_with (fail)
    go_roundg (L.length - (k + 1))
    case rel => exact ⟨k + 1, S, lg, by go_num, rfl, rfl, by have := HLT.out; omega, hS0, by omega, ⟨by rw [HE.out]; exact HSE.out⟩, ⟨by rw [HE.out]; exact HLG.out⟩, ⟨by rw [HE.out]; exact HO.out⟩, HB⟩
    case measure => have := HLT.out; omega
   ·have d2 : decide (x.f4 < 0) = false := decide_eq_false hneg
    have x0 : 0 ≤ x.f4 := by omega
    have x1 : x.f4 < (r0.length : Int) := HLX.2
    obtain ⟨m1, m2, m3⟩ := jobF_area r0 (1 + j) x HBLI.out hneg x1
    have HE := hid (HMDE.out hneg)
    obtain ⟨ab, eb, hy0, hy1, hy2⟩ := at_T34 HBL5.out x.f4 x0 x1
    have HY := hid (And.intro hy0 (And.intro hy1 hy2))
    replace hy0 := (HB.out.cell (World.block_lt_of_cell? _ _ hy0)).trans hy0
    replace hy1 := (HB.out.cell (World.block_lt_of_cell? _ _ hy1)).trans hy1
    replace hy2 := (HB.out.cell (World.block_lt_of_cell? _ _ hy2)).trans hy2
    have HJF := hid (show jobF r0 (1 + j) x = ⟨0, 1 + j, (rd_T34 r0 x.f4).f0 * (rd_T34 r0 x.f4).f1⟩ from rfl)
    rw [m3] at m1 m2
    obtain ⟨y, hy⟩ : ∃ y, y = rd_T34 r0 x.f4 := ⟨_, rfl⟩
    rw [← hy] at hy0 hy1 hy2 HY HJF m1 m2
    clear hy m3 HMDE HWST HLX hneg
    have HEB := hid eb
    subst eb
    have z2 : wr.cell? ⟨tb, 2, none⟩ = some (.slice (some ab) r0.length c2) := by
     have h := (HB.out.block tb (lt_of_some HA5.out)).trans HA5.out
     simp [World.cell?, h]
    have HS := hid (show wr.drew.cell? ⟨tb, 2, none⟩ = some (.slice (some ab) r0.length c2) ∧ wr.drew.cell? ⟨(ad.add (k * 5)).block, (ad.add (k * 5)).off + 4, none⟩ = some (.int .i64 x.f4) ∧ wr.drew.cell? (ab.add (x.f4.toNat * 3)) = some (.int .i64 y.f0) ∧ wr.drew.cell? ⟨(ab.add (x.f4.toNat * 3)).block, (ab.add (x.f4.toNat * 3)).off + 1, none⟩ = some (.int .i64 y.f1) ∧ wr.drew.cell? ⟨(ab.add (x.f4.toNat * 3)).block, (ab.add (x.f4.toNat * 3)).off + 2, none⟩ = some (.int .i64 y.f2) from ⟨z2, hx4, hy0, hy1, hy2⟩)
    go_wp2_with (fail)
    refine start_ (n := 11) (S := fun w' => w'.cell? ⟨tb, 2, none⟩ = some (.slice (some ab) r0.length c2) ∧ w'.cell? ⟨(ad.add (k * 5)).block, (ad.add (k * 5)).off + 4, none⟩ = some (.int .i64 x.f4) ∧ w'.cell? (ab.add (x.f4.toNat * 3)) = some (.int .i64 y.f0) ∧ w'.cell? ⟨(ab.add (x.f4.toNat * 3)).block, (ab.add (x.f4.toNat * 3)).off + 1, none⟩ = some (.int .i64 y.f1) ∧ w'.cell? ⟨(ab.add (x.f4.toNat * 3)).block, (ab.add (x.f4.toNat * 3)).off + 2, none⟩ = some (.int .i64 y.f2)) (ds := [10]) #[false, false, false, false, false, false, false, false, false, false, false] (by kernel_rfl) rfl rfl HS.out (fun hHeld => ?_)
    refine pure_ (i := 0) (N := some 43) (v := ?_) (a' := ?_) #[true, false, false, false, false, false, false, false, false, false, false] rfl rfl (by kernel_rfl) (fun _ _ _ h => h) (Or.inl ⟨by rfl, ?_⟩) ?_ ?_
    rotate_left
    ·intro w'
     go_simp
     with_reducible rfl
    rotate_left
    ·simp only [Act.put, List.setIfInBounds_toArray, List.set_cons_zero, List.set_cons_succ, i64_w, i32_w]
     rfl
    refine pure_ (i := 2) (N := some 45) (v := ?_) (a' := ?_) #[true, false, true, false, false, false, false, false, false, false, false] rfl rfl (by kernel_rfl) (fun _ _ _ h => h) (Or.inl ⟨by rfl, ?_⟩) ?_ ?_
    rotate_left
    ·intro w'
     go_simp
     with_reducible rfl
    rotate_left
    ·simp only [Act.put, List.setIfInBounds_toArray, List.set_cons_zero, List.set_cons_succ, i64_w, i32_w]
     rfl
    refine pure_ (i := 3) (N := some 46) (v := ?_) (a' := ?_) #[true, false, true, true, false, false, false, false, false, false, false] rfl rfl (by kernel_rfl) (fun _ _ _ h => h) (Or.inl ⟨by rfl, ?_⟩) ?_ ?_
    rotate_left
    ·intro w'
     go_simp
     with_reducible rfl
    rotate_left
    ·simp only [Act.put, List.setIfInBounds_toArray, List.set_cons_zero, List.set_cons_succ, i64_w, i32_w]
     rfl
    refine pure_ (i := 4) (N := some 47) (v := ?_) (a' := ?_) #[true, false, true, true, true, false, false, false, false, false, false] rfl rfl (by kernel_rfl) (fun _ _ _ h => h) (Or.inl ⟨by rfl, ?_⟩) ?_ ?_
    rotate_left
    ·intro w'
     go_simp
     with_reducible rfl
    rotate_left
    ·simp only [Act.put, List.setIfInBounds_toArray, List.set_cons_zero, List.set_cons_succ, i64_w, i32_w]
     rfl
    refine pure_ (i := 5) (N := some 48) (v := ?_) (a' := ?_) #[true, false, true, true, true, true, false, false, false, false, false] rfl rfl (by kernel_rfl) (fun _ _ _ h => h) (Or.inl ⟨by rfl, ?_⟩) ?_ ?_
    rotate_left
    ·intro w'
     go_simp
     with_reducible rfl
    rotate_left
    ·simp only [Act.put, List.setIfInBounds_toArray, List.set_cons_zero, List.set_cons_succ, i64_w, i32_w]
     rfl
    refine take_ (i := 1) (N := some 44) (v := ?_) (a' := ?_) #[true, true, true, true, true, true, false, false, false, false, false] rfl rfl (by kernel_rfl) (fun _ _ _ h => h) (Or.inl ⟨by rfl, ?_⟩) hHeld ?_ ?_
    rotate_left
    ·rintro w' ⟨s0, s1, s2, s3, s4⟩
     go_simp
     with_reducible rfl
    rotate_left
    ·simp only [Act.put, List.setIfInBounds_toArray, List.set_cons_zero, List.set_cons_succ, i64_w, i32_w]
     rfl
    refine take_ (i := 6) (N := some 49) (v := ?_) (a' := ?_) #[true, true, true, true, true, true, true, false, false, false, false] rfl rfl (by kernel_rfl) (fun _ _ _ h => h) (Or.inl ⟨by rfl, ?_⟩) hHeld ?_ ?_
    rotate_left
    ·rintro w' ⟨s0, s1, s2, s3, s4⟩
     go_simp
     with_reducible rfl
    rotate_left
    ·simp only [Act.put, List.setIfInBounds_toArray, List.set_cons_zero, List.set_cons_succ, i64_w, i32_w]
     rfl
    refine pure_ (i := 7) (N := some 50) (v := ?_) (a' := ?_) #[true, true, true, true, true, true, true, true, false, false, false] rfl rfl (by kernel_rfl) (fun _ _ _ h => h) (Or.inl ⟨by rfl, ?_⟩) ?_ ?_
    rotate_left
    ·intro w'
     go_simp
     with_reducible rfl
    rotate_left
    ·simp only [Act.put, List.setIfInBounds_toArray, List.set_cons_zero, List.set_cons_succ, i64_w, i32_w]
     rfl
    refine take_ (i := 8) (N := some 51) (v := ?_) (a' := ?_) #[true, true, true, true, true, true, true, true, true, false, false] rfl rfl (by kernel_rfl) (fun _ _ _ h => h) (Or.inl ⟨by rfl, ?_⟩) hHeld ?_ ?_
    rotate_left
    ·rintro w' ⟨s0, s1, s2, s3, s4⟩
     go_simp
     with_reducible rfl
    rotate_left
    ·simp only [Act.put, List.setIfInBounds_toArray, List.set_cons_zero, List.set_cons_succ, i64_w, i32_w]
     rfl
    refine one_ (i := 9) (N := some 14) #[true, true, true, true, true, true, true, true, true, true, false] rfl rfl (by kernel_rfl) (by decide) (fun K hK => ?_)
    refine value_ (w1 := ?_) (v := ?_) (by rfl) rfl ?_ ?_
    rotate_left 2
    ·go_simp
     first | (refine ⟨?_, ?_⟩ <;> rfl) | rfl
    refine hK.out _ _ ⟨pw_cell_below (below_alloc (Below.refl _ _) _) HS.out.1, pw_cell_below (below_alloc (Below.refl _ _) _) HS.out.2.1, pw_cell_below (below_alloc (Below.refl _ _) _) HS.out.2.2.1, pw_cell_below (below_alloc (Below.refl _ _) _) HS.out.2.2.2.1, pw_cell_below (below_alloc (Below.refl _ _) _) HS.out.2.2.2.2⟩ (fun hHeld => ?_)
    clear hK K
    refine norm_ (a' := ?_) ?_ ?_
    rotate_left
    ·show Act.put _ (some 14) _ = _
     simp only [Act.put, List.setIfInBounds_toArray, List.set_cons_zero, List.set_cons_succ, i64_w, i32_w]
     rfl
    refine last_ (i := 10) (N := none) #[true, true, true, true, true, true, true, true, true, true, true] rfl rfl (by kernel_rfl) (by decide) (fun K hK => ?_)
    refine skip_ (w1 := ?_) (by rfl) rfl ?_ ?_
    rotate_left
    ·go_simp
     rfl
    refine hK.out _ _ ?_
    clear hK K
    refine done_ (by kernel_rfl) ?_
    obtain ⟨w6, hw6⟩ : ∃ w6, w6 = (wr.alloc (.cells #[.int .i64 y.f0, .int .i64 y.f1, .int .i64 y.f2] 34)).drew := ⟨_, rfl⟩
    obtain ⟨gb, hgb⟩ : ∃ gb, gb = wr.heap.size := ⟨_, rfl⟩
    have hbw : Below wr.heap.size wr w6 := by rw [hw6]; exact (below_alloc (Below.refl _ _) _).drew
    have HG6 := hid (show w6.heap[gb]? = some (.cells #[.int .i64 y.f0, .int .i64 y.f1, .int .i64 y.f2] 34 (0, 0)) by rw [hw6, hgb]; exact blk_new wr _)
    have HO6 := Aside0.mk (Kd.R_below HO.out hbw)
    have HB6 := Aside0.mk (HB.out.trans (hbw.mono HB.out.size))
    have HS6 := hid (HB6.out.size)
    rw [← hw6]
    try rw [← hgb]
    clear hw6 hgb hbw hHeld HS HO HB HY z2 hx4 hy0 hy1 hy2
    obtain ⟨L7, hL7⟩ : ∃ L7, L7 = (allF r0 (1 + j) (L.take k)).length := ⟨_, rfl⟩
    rw [← hL7] at eR HLN
    subst eR
    have HL7 := hid hL7
    rw [← hL7]
    clear hL7
    have g0 : w6.cell? ⟨gb, 0, none⟩ = some (.int .i64 y.f0) := by simp [World.cell?, HG6.out]
    have g1 : w6.cell? ⟨gb, 1, none⟩ = some (.int .i64 y.f1) := by simp [World.cell?, HG6.out]
    go_upto_region 14 with ((with_reducible refine gate_builtin (b := .append) (xs := #[.tmp 52, .tmp 60]) rfl ?_); at_builtin; refine Kd.R_append k34 (w0 := w5) w5.heap.size rfl (.tmp 52) (.tmp 60) 30 36 (.agg #[.int .i64 0, .int .i64 0, .int .i64 0]) 24 rfl Tryd.underlying30 infoJobS rfl (by decide) (by omega) (.slice A7 L7 c7) (allF r0 (1 + j) (L.take k)) ⟨0, 1 + j, y.f0 * y.f1⟩ [.int .i64 0, .int .i64 (1 + j), .int .i64 (y.f0 * y.f1)] (fun _ => True) (fun _ => False) rfl (by first | (go_simp; done) | (go_simp; rfl)) ?aP (fun _ hk => hk.elim) (fun _ _ => trivial) HO6.out HB6.out HS6.out ?aL ?_; (case aP => exact k34_mkM _ _ _ ⟨0, 1 + j, y.f0 * y.f1⟩); (case aL => have := HLN.out; rw [← HL7.out]; omega); intro v7 w7 ho hb hg hat; have HO7 := Aside0.mk ho; have HB7 := Aside0.mk hb; have HG7 := hid ((hg.block gb (lt_of_some HG6.out) (Kd.R_ne HO6.out HG6.out (by decide))).trans HG6.out); clear ho hb hg hat g0 g1)
    have g0 : w7.cell? ⟨gb, 0, none⟩ = some (.int .i64 y.f0) := by simp [World.cell?, HG7.out]
    have g1 : w7.cell? ⟨gb, 1, none⟩ = some (.int .i64 y.f1) := by simp [World.cell?, HG7.out]
    cases lg
    all_goals
     go_wp2_with (fail)
     go_roundg (L.length - (k + 1))
     case rel => exact ⟨k + 1, S + y.f0 * y.f1, _, by go_num, by go_num, rfl, by have := HLT.out; omega, by omega, by omega, ⟨by rw [HE.out, workF_app, workF_one, HJF.out, ← HSE.out]⟩, ⟨by rw [HE.out, largeF_app, ← HLG.out, HJF.out]; simp [largeF]⟩, ⟨by rw [HE.out, HJF.out]; exact HO7.out⟩, HB7⟩
     case measure => have := HLT.out; omega
  ·have d1 : decide ((k : Int) < (L.length : Int)) = false := decide_eq_false (by omega)
   have htk : L.take k = L := List.take_of_length_le (by omega)
   rw [htk] at HSE HLG HO eR
   have HALL := hid (allF_all r0 (1 + j) L HBLI.out HLB.out)
   have HJN := hid (Nat.le_trans (allF_len r0 (1 + j) L) hL)
   obtain ⟨J, hJ⟩ : ∃ J, J = allF r0 (1 + j) L := ⟨_, rfl⟩
   rw [← hJ] at HSE HLG HO eR HALL HJN
   subst eR
   have HBW6 := Aside0.mk (HBW5.out.trans (HB.out.mono HBW5.out.size))
   have HCJ := Aside0.mk (Kd.R_reads' HO.out).2.2
   have hjl : J.length ≤ 8192 := HJN.out
   clear hJ htk HO HB HJN
   by_cases h32 : J.length ≤ 32
   ·have d2 : decide ((32 : Int) < (J.length : Int)) = false := decide_eq_false (by omega)
    have HF := hid (fewest_walk A7 c7 J (1 + j) wr h32 HCJ.out (fun x hx => decide_eq_true (by obtain ⟨a1, a2, a3, a4⟩ := HALL.out x hx; rw [a1, a2]; omega)) (HZ.out.below HBW6.out) (by omega) (fun x hx => by obtain ⟨a1, a2, a3, a4⟩ := HALL.out x hx; exact ⟨a1, a2, by omega⟩))
    go_wp2_with (fail)
    refine HF.out.mono ?_
    rintro e w7 ⟨n, rfl, hfi, hb7⟩
    have HFI := hid (fewest_want (1 + j) (by omega) J (by rw [← HSE.out]; exact hS0) n hfi)
    have HB7 := Aside0.mk (HBW6.out.trans (hb7.mono HBW6.out.size))
    rw [← HSE.out, ← HLG.out] at HFI
    clear hfi hb7 HF HBW6
    clear HALL HLB HLG HSE HCJ
    have HF4 := hid (four_walk w7 (HZ.out.below HB7.out))
    go_wp2_with (fail)
    all_goals first
     | (refine HF4.out.mono ?_; rintro e w8 ⟨rfl, hb8⟩; have HB8 := Aside0.mk (HB7.out.trans (hb8.mono HB7.out.size)); clear hb8 HF4; go_wp2_with (fail); go_ret; exact ⟨rfl, HB8.out⟩)
     | (exfalso; have h9 := HFI.out; clear HFI HF4; grind)
   ·have d2 : decide ((32 : Int) < (J.length : Int)) = true := decide_eq_true (by omega)
    have HF := hid (four_walk wr (HZ.out.below HBW6.out))
    go_wp2_with (fail)
    refine HF.out.mono ?_
    rintro e w7 ⟨rfl, hb7⟩
    have HB7 := Aside0.mk (HBW6.out.trans (hb7.mono HBW6.out.size))
    clear hb7 HF HBW6
    go_wp2_with (fail)
    go_ret
    exact ⟨rfl, HB7.out⟩
end Go.Proofs.YtiioklboaookiaaDoor.Q
