/- A part of the proof: what the law's row needs. -/
import Derived.Deep.QuietTactic
import Derived.BigQuiet
import Derived.Laws.StructEq
import Derived.Test.YtiioklboaookiaaDoorV6
namespace Go.Proofs.YtiioklboaookiaaDoor.Q
open Go.RowKit Go.Proofs.YtiioklboaookiaaDoorW.PrintWords Go.Proofs.YtiioklboaookiaaDoorW.PrintLast Go.Proofs.YtiioklboaookiaaDoor.Hand Go.Proofs.YtiioklboaookiaaDoorW.PrintMore
attribute [local go_sem] max2_int min2_int max_two min_two max_three min_three max_four min_four
set_option linter.unusedVariables false
set_option linter.unusedSimpArgs false
theorem NetAt.far {nb mb xb B N n : Nat} {M : Nat → Nat → Int} {adj : Nat → List Nat} {vs : Nat → Value} {w w1 : World} (h : NetAt nb mb xb B N n M adj vs w) (hb : ∀ k, B ≤ k → k < w.heap.size → w1.heap[k]? = w.heap[k]?) : NetAt nb mb xb B N n M adj vs w1 where
 net := (hb _ h.bn h.lt.1).trans h.net
 room := h.room.step (hb _ h.bm h.lt.2.1)
 row := by obtain ⟨C, h1, h2⟩ := h.row; exact ⟨C, (hb _ h.bx h.lt.2.2).trans h1, h2⟩
 rows := fun i hi => Kd.R_mono (Kd.R_move (Kd.R_bound (h.rows i hi)) (fun k hk => hb k hk.2.1 hk.2.2.1)) (fun _ _ => trivial)
 apart := h.apart
 bn := h.bn
 bm := h.bm
 bx := h.bx
structure PW (gb pb nb mb xb B N b : Nat) (A0 : Option Addr) (n c0 : Nat) (A1 : Option Addr) (c1 : Nat) (ps : List S72) (base : Nat) (work : Int) (cnt : Nat) (g : Gr) (w : World) : Prop where
 tb : w.heap[gb]? = some (.cells #[.int .i64 b, .slice A0 n c0] 60 (0, 0))
 pr : ProbAt pb b A0 n c0 (.pointer (some ⟨nb, 0, none⟩)) A1 ps.length c1 work w
 pa : Kd.R k72 125 w base (fun k => k < B) (.slice A1 ps.length c1) ps
 net : ∃ vs, NetAt nb mb xb B N cnt g.1 g.2 vs w
theorem PW.keep {gb pb nb mb xb B N b : Nat} {A0 : Option Addr} {n c0 : Nat} {A1 : Option Addr} {c1 : Nat} {ps : List S72} {base : Nat} {work : Int} {cnt cnt' : Nat} {g g' : Gr} {w w1 : World} (h : PW gb pb nb mb xb B N b A0 n c0 A1 c1 ps base work cnt g w) (hk : NetKeep B w w1)
  (hn : ∃ vs, NetAt nb mb xb B N cnt' g'.1 g'.2 vs w1) : PW gb pb nb mb xb B N b A0 n c0 A1 c1 ps base work cnt' g' w1 where
 tb := hk.blk _ _ _ _ h.tb (by decide) (by decide)
 pr := hk.blk _ _ _ _ h.pr (by decide) (by decide)
 pa := Kd.R_move h.pa (fun k hk2 => hk.bel.block k hk2)
 net := hn
theorem PW.below {gb pb nb mb xb B N b : Nat} {A0 : Option Addr} {n c0 : Nat} {A1 : Option Addr} {c1 : Nat} {ps : List S72} {base : Nat} {work : Int} {cnt : Nat} {g : Gr} {w w1 : World} (h : PW gb pb nb mb xb B N b A0 n c0 A1 c1 ps base work cnt g w) (hb : Below w.heap.size w w1) : PW gb pb nb mb xb B N b A0 n c0 A1 c1 ps base work cnt g w1 where
 tb := (hb.block _ (lt_of_some h.tb)).trans h.tb
 pr := (hb.block _ (lt_of_some h.pr)).trans h.pr
 pa := Kd.R_below h.pa hb
 net := by obtain ⟨vs, h⟩ := h.net; exact ⟨vs, h.below hb⟩
theorem PW.work {gb pb nb mb xb B N b : Nat} {A0 : Option Addr} {n c0 : Nat} {A1 : Option Addr} {c1 : Nat} {ps : List S72} {base : Nat} {work : Int} {cnt : Nat} {g : Gr} {w : World} (h : PW gb pb nb mb xb B N b A0 n c0 A1 c1 ps base work cnt g w) (hpB : pb < B) (x : Int) : PW gb pb nb mb xb B N b A0 n c0 A1 c1 ps base x cnt g (w.setCell ⟨pb, 4, none⟩ (.int .i64 x)) where
 tb := (Below.heap_setCell w ⟨pb, 4, none⟩ (.int .i64 x) gb (fun e => by
  have h1 := h.tb
  have h2 : w.heap[pb]? = _ := h.pr
  have e' : gb = pb := e
  rw [e', h2] at h1
  injection h1 with h1
  injection h1 with _ h1
  exact absurd h1 (by decide))).trans h.tb
 pr := blk_put h.pr 4 _ rfl
 pa := Kd.R_set h.pa h.pr (by decide) 4 _
 net := by
  obtain ⟨vs, h'⟩ := h.net
  exact ⟨vs, h'.far (fun k hk _ => Below.heap_setCell w ⟨pb, 4, none⟩ (.int .i64 x) k (fun e => by have e' : k = pb := e; omega))⟩
set_option maxHeartbeats 8000000 in
set_option maxRecDepth 100000 in
theorem newp_walk (b : Nat) (A0 : Option Addr) (c0 : Nat) (l : List S34) (w : World) (hb : b ≤ 8) (hl : l.length ≤ 32) (hr : Kd.C k34 w A0 l.length l) (hv : ∀ x, x ∈ l → jobOk x = true) :
  Calls Tryd.prog 30 #[.agg #[.int .i64 b, .slice A0 l.length c0]] w fun e w' => ∃ pb nb mb xb B n A1 c1 vs, e = .returned (.pointer (some ⟨pb, 0, none⟩)) ∧
   ProbAt pb b A0 l.length c0 (.pointer (some ⟨nb, 0, none⟩)) A1 (spansF l).length c1 (workF l) w' ∧ (∃ base, Kd.R k72 125 w' base (fun k => k < B) (.slice A1 (spansF l).length c1) (spansF l)) ∧ w.heap.size ≤ B ∧ n ≤ 10000 ∧
   NetAt nb mb xb B (2 + l.length + (spansF l).length) n (probG b l (spansF l)).1 (probG b l (spansF l)).2 vs w' ∧ pb < B ∧ Below w.heap.size w w' := by
 have HR := Aside0.mk hr
 have HV := hid hv
 clear hr hv
 go_enter Tryd.func30, Tryd.ntmps30
 go_wp2_with (fail)
 obtain ⟨gb, hgb⟩ : ∃ gb, gb = w.heap.size := ⟨_, rfl⟩
 obtain ⟨W1, hW1⟩ : ∃ W1, W1 = w.alloc (.cells #[.int .i64 b, .slice A0 l.length c0] 60) := ⟨_, rfl⟩
 have hB1 : Below w.heap.size w W1 := by rw [hW1]; exact below_alloc (Below.refl _ _) _
 have hTB : W1.heap[gb]? = some (.cells #[.int .i64 b, .slice A0 l.length c0] 60 (0, 0)) := by rw [hW1, hgb]; exact blk_new _ _
 rw [← hW1, ← hgb]
 have HGB := hid hgb
 have HB1 := Aside0.mk hB1
 have HTB := hid hTB
 have HS := hid (show W1.drew.cell? ⟨gb, 0, none⟩ = some (.int .i64 b) ∧ W1.drew.cell? ⟨gb, 1, none⟩ = some (.slice A0 l.length c0) from ⟨by show W1.cell? _ = _; simp [World.cell?, hTB], by show W1.cell? _ = _; simp [World.cell?, hTB]⟩)
 clear hgb hW1 hB1 hTB
 refine start_ (n := 6) (S := fun w' => w'.cell? ⟨gb, 0, none⟩ = some (.int .i64 b) ∧ w'.cell? ⟨gb, 1, none⟩ = some (.slice A0 l.length c0)) (ds := []) #[false, false, false, false, false, false] (by kernel_rfl) rfl rfl HS.out (fun hHeld => ?_)
 refine take_ (i := 0) (N := some 10) (v := ?_) (a' := ?_) #[true, false, false, false, false, false] rfl rfl (by kernel_rfl) (fun _ _ _ h => h) (Or.inl ⟨by rfl, ?_⟩) hHeld ?_ ?_
 rotate_left
 ·rintro w' ⟨s0, s1⟩
  go_simp
  with_reducible rfl
 rotate_left
 ·simp only [Act.put, List.setIfInBounds_toArray, List.set_cons_zero, List.set_cons_succ, i64_w, i32_w]
  rfl
 refine take_ (i := 1) (N := some 11) (v := ?_) (a' := ?_) #[true, true, false, false, false, false] rfl rfl (by kernel_rfl) (fun _ _ _ h => h) (Or.inl ⟨by rfl, ?_⟩) hHeld ?_ ?_
 rotate_left
 ·rintro w' ⟨s0, s1⟩
  go_simp
  with_reducible rfl
 rotate_left
 ·simp only [Act.put, List.setIfInBounds_toArray, List.set_cons_zero, List.set_cons_succ, i64_w, i32_w]
  rfl
 refine one_ (i := 2) (N := some 12) #[true, true, true, false, false, false] rfl rfl (by kernel_rfl) (by decide) (fun K hK => ?_)
 refine goes_ Tryd.func46 (by kernel_rfl) rfl #[.agg #[.int .i64 b, .slice A0 l.length c0]] (by rfl) rfl rfl (by (try simp only [List.map_toArray, List.map_cons, List.map_nil]); first | done | rfl) ?_
 refine (spans_walk b A0 c0 l _ hl (Kd.C_below HR.out HB1.out.drew)).mono ?_
 rintro e w2 ⟨v2, rfl, hr2, hb2⟩
 obtain ⟨A1, c1, e2⟩ := Kd.R_slice hr2
 subst e2
 have HRS := Aside0.mk hr2
 have HB2 := Aside0.mk (HB1.out.drew.trans (hb2.mono HB1.out.drew.size))
 have HTB2 := hid (show w2.heap[gb]? = some (.cells #[.int .i64 b, .slice A0 l.length c0] 60 (0, 0)) from (hb2.block gb (show gb < W1.drew.heap.size from lt_of_some HTB.out)).trans HTB.out)
 have g0 := pw_cell_below hb2 HS.out.1
 have g1 := pw_cell_below hb2 HS.out.2
 clear hr2 hb2
 refine ⟨_, rfl, ?_⟩
 refine hK.out _ _ ⟨g0, g1⟩ (fun hHeld => ?_)
 clear hK K
 refine norm_ (a' := ?_) ?_ ?_
 rotate_left
 ·show Act.put _ (some 12) _ = _
  simp only [Act.put, List.setIfInBounds_toArray, List.set_cons_zero, List.set_cons_succ, i64_w, i32_w]
  rfl
 refine pure_ (i := 3) (N := some 13) (v := ?_) (a' := ?_) #[true, true, true, true, false, false] rfl rfl (by kernel_rfl) (fun _ _ _ h => h) (Or.inl ⟨by rfl, ?_⟩) ?_ ?_
 rotate_left
 ·intro w'
  go_simp
  with_reducible rfl
 rotate_left
 ·simp only [Act.put, List.setIfInBounds_toArray, List.set_cons_zero, List.set_cons_succ, i64_w, i32_w]
  rfl
 refine one_ (i := 4) (N := some 14) #[true, true, true, true, true, false] rfl rfl (by kernel_rfl) (by decide) (fun K hK => ?_)
 refine value_ (w1 := ?_) (v := ?_) (by rfl) rfl ?_ ?_
 rotate_left 2
 ·go_simp
  first | (refine ⟨?_, ?_⟩ <;> rfl) | rfl
 refine hK.out _ _ ⟨by rw [World.cell?_alloc_old _ _ _ (Nat.ne_of_lt (lt_of_some HTB2.out))]; exact g0, by rw [World.cell?_alloc_old _ _ _ (Nat.ne_of_lt (lt_of_some HTB2.out))]; exact g1⟩ (fun hHeld => ?_)
 clear hK K
 refine norm_ (a' := ?_) ?_ ?_
 rotate_left
 ·show Act.put _ (some 14) _ = _
  simp only [Act.put, List.setIfInBounds_toArray, List.set_cons_zero, List.set_cons_succ, i64_w, i32_w]
  rfl
 refine pure_ (i := 5) (N := some 3) (v := ?_) (a' := ?_) #[true, true, true, true, true, true] rfl rfl (by kernel_rfl) (fun _ _ _ h => h) (Or.inl ⟨by rfl, ?_⟩) ?_ ?_
 rotate_left
 ·intro w'
  go_simp
  with_reducible rfl
 rotate_left
 ·simp only [Act.put, List.setIfInBounds_toArray, List.set_cons_zero, List.set_cons_succ, i64_w, i32_w]
  rfl
 refine done_ (by kernel_rfl) ?_
 clear g0 g1
 obtain ⟨ps, hps⟩ : ∃ ps, ps = spansF l := ⟨_, rfl⟩
 obtain ⟨pb, hpb⟩ : ∃ pb, pb = w2.heap.size := ⟨_, rfl⟩
 have HPS := hid hps
 have hm : ps.length ≤ 64 := by
  rw [hps]; unfold spansF pairsF timesF Lib.compact Lib.compactUpTo
  rw [List.length_map, List.length_range, List.length_map]
  refine Nat.le_trans (Nat.sub_le _ _) (Nat.le_trans (List.length_filter_le _ _) ?_)
  rw [List.length_range, List.length_mergeSort, timesR_length]; omega
 rw [← hps] at HRS ⊢
 obtain ⟨W3, hW3⟩ : ∃ W3, W3 = w2.alloc (.cells #[.int .i64 b, .slice A0 l.length c0, .pointer none, .slice A1 ps.length c1, .int .i64 0] 99) := ⟨_, rfl⟩
 have HP3 := hid (show ProbAt pb b A0 l.length c0 (.pointer none) A1 ps.length c1 0 W3 by rw [hW3, hpb]; exact blk_new _ _)
 have hb3 : Below w2.heap.size w2 W3 := by rw [hW3]; exact below_alloc (Below.refl _ _) _
 have HB3 := Aside0.mk (HB2.out.trans (hb3.mono HB2.out.size))
 have HTB3 := hid (show W3.heap[gb]? = some (.cells #[.int .i64 b, .slice A0 l.length c0] 60 (0, 0)) from (hb3.block gb (lt_of_some HTB2.out)).trans HTB2.out)
 have HPA3 := Aside0.mk (Kd.R_below HRS.out hb3)
 have hgp : gb < pb := by rw [hpb]; exact lt_of_some HTB2.out
 rw [← hW3, ← hpb]
 clear hW3 hpb hps hb3 HRS HTB2 HB2 HTB HB1 HS
 go_wp2_with (fail)
 refine (last_walk pb b A0 l.length c0 _ A1 ps.length c1 0 W3 HP3.out (by omega) (by omega)).mono ?_
 rintro e w4 ⟨rfl, q4, rfl⟩
 go_wp2_with (fail)
 obtain ⟨N, hN⟩ : ∃ N, N = 2 + l.length + ps.length := ⟨_, rfl⟩
 have hNi : (1 : Int) + (l.length : Int) + (ps.length : Int) + 1 = (N : Int) := by omega
 have hNb : N ≤ 1000 := by omega
 have HNN := hid hN
 rw [hNi]
 clear hN
 refine (newNetwork_walk N _ hNb).mono ?_
 rintro e w5 ⟨nb, mb, xb, rfl, hNet, hb5⟩
 obtain ⟨B, hBe⟩ : ∃ B, B = (W3.drewN q4).heap.size := ⟨_, rfl⟩
 rw [← hBe] at hNet hb5
 have hpB : pb < B := by rw [hBe]; exact lt_of_some HP3.out
 have HP5 := hid (show ProbAt pb b A0 l.length c0 (.pointer none) A1 ps.length c1 0 w5 from (hb5.block pb hpB).trans HP3.out)
 obtain ⟨q0, q1, q2, q3, q4_, f0⟩ := HP5.out.cells
 have HTB5 := hid (show w5.heap[gb]? = some (.cells #[.int .i64 b, .slice A0 l.length c0] 60 (0, 0)) from (hb5.block gb (Nat.lt_trans hgp hpB)).trans HTB3.out)
 have k1 : w5.cell? ⟨gb, 1, none⟩ = some (.slice A0 l.length c0) := by simp [World.cell?, HTB5.out]
 have hne : gb ≠ pb := Nat.ne_of_lt hgp
 have HBE := hid hBe
 have HNET := hid hNet
 have HB5 := Aside0.mk hb5
 have HPA5 := Aside0.mk (show Kd.R k72 125 w5 W1.drew.heap.size (fun k => k < B) (.slice A1 ps.length c1) ps from Kd.R_move (Kd.R_mono (Kd.R_bound HPA3.out) (fun k hk => by rw [hBe]; exact hk.2.2.1)) (fun k hk => hb5.block k hk))
 have HB6 := Aside0.mk (HB3.out.trans (show Below w.heap.size W3 w5 from by have h := HB3.out.size; exact (pw_below_drewN (Below.refl _ _) q4).trans (hb5.mono (by rw [hBe]; exact h))))
 clear hBe hNet hb5
 go_wp2_with (fail)
 obtain ⟨base, hbase⟩ : ∃ base, base = W1.drew.heap.size := ⟨_, rfl⟩
 rw [← hbase] at HPA5
 clear hbase
 obtain ⟨g0, hg0⟩ : ∃ g0 : Gr, g0 = (fun _ _ => 0, fun _ => []) := ⟨_, rfl⟩
 have HPW0 : Aside0 (PW gb pb nb mb xb B N b A0 l.length c0 A1 c1 ps base 0 0 g0 (w5.setCell ⟨pb, 2, none⟩ (.pointer (some ⟨nb, 0, none⟩)))) := by
  have hpb5 : w5.heap[pb]? = some (.cells (probCells b A0 l.length c0 (.pointer none) A1 ps.length c1 0) 99 (0, 0)) := HP5.out
  refine ⟨⟨(Below.heap_setCell w5 ⟨pb, 2, none⟩ (.pointer (some ⟨nb, 0, none⟩)) gb hne).trans HTB5.out, blk_put hpb5 2 (.pointer (some ⟨nb, 0, none⟩)) rfl, Kd.R_set HPA5.out hpb5 (by decide) 2 (.pointer (some ⟨nb, 0, none⟩)), ⟨fun _ => .slice none 0 0, ?_⟩⟩⟩
  rw [hg0]
  exact HNET.out.far (fun k hk _ => Below.heap_setCell w5 ⟨pb, 2, none⟩ (.pointer (some ⟨nb, 0, none⟩)) k (fun e => by have e' : k = pb := e; omega))
 have HBW0 : Aside0 (Below w.heap.size w (w5.setCell ⟨pb, 2, none⟩ (.pointer (some ⟨nb, 0, none⟩)))) := ⟨Below.setCell (p := ⟨pb, 2, none⟩) HB6.out (by rw [← HGB.out]; exact Nat.le_of_lt hgp) _⟩
 have HG0 : Aside0 (GrOk N (2 * 0) g0) := ⟨by rw [hg0]; exact GrOk.none N⟩
 obtain ⟨G1, hG1⟩ : ∃ G1, G1 = gJobs l.length ps l 0 g0 := ⟨_, rfl⟩
 have HJ0 : Aside0 (gJobs l.length ps (l.drop 0) 0 g0 = G1) := ⟨hG1.symm⟩
 have HW0 : Aside0 (0 + workF (l.drop 0) = workF l) := ⟨by simp⟩
 have HG1 := hid hG1
 have HG0E := hid hg0
 clear hG1 hg0 q0 q1 q2 q3 q4_ f0 HP5 HTB5 HPA5 HB6 HNET HB5 HP3 HTB3 HPA3 HB3 k1
 go_loopg [25] l.length (fun kq v25 w' => ∃ (k cnt : Nat) (g : Gr) (work : Int), v25 = .int .i64 k ∧ k + kq = l.length ∧ cnt ≤ 100 * k ∧ 0 ≤ work ∧ work ≤ 1000 * k ∧ Aside0 (GrOk N (2 * cnt) g) ∧ Aside0 (gJobs l.length ps (l.drop k) k g = G1) ∧ Aside0 (work + workF (l.drop k) = workF l) ∧ Aside0 (PW gb pb nb mb xb B N b A0 l.length c0 A1 c1 ps base work cnt g w') ∧ Aside0 (Below w.heap.size w w'))
 case atStart => exact ⟨0, 0, g0, 0, rfl, by omega, by omega, by omega, by omega, HG0, HJ0, HW0, HPW0, HBW0⟩
 case round =>
  clear HG0 HJ0 HW0 HPW0 HBW0
  obtain ⟨k, cnt, g, work, rfl, hk, hcnt, hw0, hw1, HG, HJ, HW, HPW, HBL⟩ := hrel
  by_cases hlt : k < l.length
  ·have d2 : decide ((k : Int) < (l.length : Int)) = true := decide_eq_true (by omega)
   obtain ⟨ad, e0, hx0, hx1, hx2⟩ := at_T34 HR.out (k : Int) (by omega) (by omega)
   rw [Int.toNat_natCast] at hx0 hx1 hx2
   replace hx0 := (HBL.out.cell (World.block_lt_of_cell? w _ hx0)).trans hx0
   replace hx1 := (HBL.out.cell (World.block_lt_of_cell? w _ hx1)).trans hx1
   replace hx2 := (HBL.out.cell (World.block_lt_of_cell? w _ hx2)).trans hx2
   cases e0
   have hlt' : (k : Int) < (l.length : Int) := by omega
   have k0 : (0 : Int) ≤ (k : Int) := by omega
   have hjv := HV.out _ (rd_mem k hlt)
   have hdrop : l.drop k = rd_T34 l (k : Int) :: l.drop (k + 1) := by
    rw [List.drop_eq_getElem_cons hlt]
    unfold rd_T34; rw [Int.toNat_natCast, List.getD_eq_getElem?_getD, List.getElem?_eq_getElem hlt]; rfl
   have HLT := hid hlt
   obtain ⟨bl, hbl⟩ : ∃ bl, bl = rd_T34 l (k : Int) := ⟨_, rfl⟩
   rw [← hbl] at hx0 hx1 hx2 hjv hdrop
   clear hbl hlt
   obtain ⟨j0, j1, j2, j3, j4⟩ := of_decide_eq_true hjv
   clear hjv
   have HD := hid hdrop
   clear hdrop
   go_wp2_with (fail)
   obtain ⟨jb, hjb⟩ : ∃ jb, jb = wr.heap.size := ⟨_, rfl⟩
   obtain ⟨W6, hW6⟩ : ∃ W6, W6 = wr.alloc (.cells #[.int .i64 bl.f0, .int .i64 bl.f1, .int .i64 bl.f2] 36) := ⟨_, rfl⟩
   have hb6 : Below wr.heap.size wr W6 := by rw [hW6]; exact below_alloc (Below.refl _ _) _
   have HJB := hid (show W6.heap[jb]? = some (.cells #[.int .i64 bl.f0, .int .i64 bl.f1, .int .i64 bl.f2] 36 (0, 0)) by rw [hW6, hjb]; exact blk_new _ _)
   rw [← hW6, ← hjb]
   clear hW6 hjb hx0 hx1 hx2
   have HPW6 := Aside0.mk (HPW.out.below hb6)
   have HBL6 := Aside0.mk (HBL.out.trans (hb6.mono HBL.out.size))
   clear hb6 HPW HBL
   obtain ⟨vs6, hn6⟩ := HPW6.out.net
   have HN6 := hid (hn6.below (below_drew1 (Below.refl _ _)))
   have HBB := hid (show w.heap.size ≤ B by rw [← HGB.out]; omega)
   have HS6 := hid (show W6.drew.cell? ⟨pb, 2, none⟩ = some (.pointer (some ⟨nb, 0, none⟩)) ∧ W6.drew.cell? ⟨jb, 2, none⟩ = some (.int .i64 bl.f2) from ⟨(HPW6.out.pr.cells).2.2.1, by show W6.cell? _ = _; simp [World.cell?, HJB.out]⟩)
   clear hn6
   refine start_ (n := 10) (S := fun w' => w'.cell? ⟨pb, 2, none⟩ = some (.pointer (some ⟨nb, 0, none⟩)) ∧ w'.cell? ⟨jb, 2, none⟩ = some (.int .i64 bl.f2)) (ds := []) #[false, false, false, false, false, false, false, false, false, false] (by kernel_rfl) rfl rfl HS6.out (fun hHeld => ?_)
   refine pure_ (i := 0) (N := some 30) (v := ?_) (a' := ?_) #[true, false, false, false, false, false, false, false, false, false] rfl rfl (by kernel_rfl) (fun _ _ _ h => h) (Or.inl ⟨by rfl, ?_⟩) ?_ ?_
   rotate_left
   ·intro w'
    go_simp
    with_reducible rfl
   rotate_left
   ·simp only [Act.put, List.setIfInBounds_toArray, List.set_cons_zero, List.set_cons_succ, i64_w, i32_w]
    rfl
   refine pure_ (i := 1) (N := some 31) (v := ?_) (a' := ?_) #[true, true, false, false, false, false, false, false, false, false] rfl rfl (by kernel_rfl) (fun _ _ _ h => h) (Or.inl ⟨by rfl, ?_⟩) ?_ ?_
   rotate_left
   ·intro w'
    go_simp
    with_reducible rfl
   rotate_left
   ·simp only [Act.put, List.setIfInBounds_toArray, List.set_cons_zero, List.set_cons_succ, i64_w, i32_w]
    rfl
   refine pure_ (i := 2) (N := some 32) (v := ?_) (a' := ?_) #[true, true, true, false, false, false, false, false, false, false] rfl rfl (by kernel_rfl) (fun _ _ _ h => h) (Or.inl ⟨by rfl, ?_⟩) ?_ ?_
   rotate_left
   ·intro w'
    go_simp
    with_reducible rfl
   rotate_left
   ·simp only [Act.put, List.setIfInBounds_toArray, List.set_cons_zero, List.set_cons_succ, i64_w, i32_w]
    rfl
   refine take_ (i := 3) (N := some 33) (v := ?_) (a' := ?_) #[true, true, true, true, false, false, false, false, false, false] rfl rfl (by kernel_rfl) (fun _ _ _ h => h) (Or.inl ⟨by rfl, ?_⟩) hHeld ?_ ?_
   rotate_left
   ·rintro w' ⟨s0, s1⟩
    go_simp
    with_reducible rfl
   rotate_left
   ·simp only [Act.put, List.setIfInBounds_toArray, List.set_cons_zero, List.set_cons_succ, i64_w, i32_w]
    rfl
   refine pure_ (i := 4) (N := some 34) (v := ?_) (a' := ?_) #[true, true, true, true, true, false, false, false, false, false] rfl rfl (by kernel_rfl) (fun _ _ _ h => h) (Or.inl ⟨by rfl, ?_⟩) ?_ ?_
   rotate_left
   ·intro w'
    go_simp
    with_reducible rfl
   rotate_left
   ·simp only [Act.put, List.setIfInBounds_toArray, List.set_cons_zero, List.set_cons_succ, i64_w, i32_w]
    rfl
   refine pure_ (i := 5) (N := some 35) (v := ?_) (a' := ?_) #[true, true, true, true, true, true, false, false, false, false] rfl rfl (by kernel_rfl) (fun _ _ _ h => h) (Or.inl ⟨by rfl, ?_⟩) ?_ ?_
   rotate_left
   ·intro w'
    go_simp
    with_reducible rfl
   rotate_left
   ·simp only [Act.put, List.setIfInBounds_toArray, List.set_cons_zero, List.set_cons_succ, i64_w, i32_w]
    rfl
   refine pure_ (i := 7) (N := some 37) (v := ?_) (a' := ?_) #[true, true, true, true, true, true, false, true, false, false] rfl rfl (by kernel_rfl) (fun _ _ _ h => h) (Or.inl ⟨by rfl, ?_⟩) ?_ ?_
   rotate_left
   ·intro w'
    go_simp
    with_reducible rfl
   rotate_left
   ·simp only [Act.put, List.setIfInBounds_toArray, List.set_cons_zero, List.set_cons_succ, i64_w, i32_w]
    rfl
   refine take_ (i := 8) (N := some 38) (v := ?_) (a' := ?_) #[true, true, true, true, true, true, false, true, true, false] rfl rfl (by kernel_rfl) (fun _ _ _ h => h) (Or.inl ⟨by rfl, ?_⟩) hHeld ?_ ?_
   rotate_left
   ·rintro w' ⟨s0, s1⟩
    go_simp
    with_reducible rfl
   rotate_left
   ·simp only [Act.put, List.setIfInBounds_toArray, List.set_cons_zero, List.set_cons_succ, i64_w, i32_w]
    rfl
   refine one_ (i := 6) (N := some 36) #[true, true, true, true, true, true, true, true, true, false] rfl rfl (by kernel_rfl) (by decide) (fun K hK => ?_)
   refine goes_ Tryd.func49 (by kernel_rfl) rfl #[.pointer (some ⟨pb, 0, none⟩), .int .i64 k] (by rfl) rfl rfl (by (try simp only [List.map_toArray, List.map_cons, List.map_nil]); first | done | rfl) ?_
   refine (job_walk pb k _ (by omega)).mono ?_
   rintro e w7 ⟨rfl, rfl⟩
   refine ⟨_, rfl, ?_⟩
   refine hK.out _ _ HS6.out (fun hHeld => ?_)
   clear hK K
   refine norm_ (a' := ?_) ?_ ?_
   rotate_left
   ·show Act.put _ (some 36) _ = _
    simp only [Act.put, List.setIfInBounds_toArray, List.set_cons_zero, List.set_cons_succ, i64_w, i32_w]
    rfl
   refine one_ (i := 9) (N := some 39) #[true, true, true, true, true, true, true, true, true, true] rfl rfl (by kernel_rfl) (by decide) (fun K hK => ?_)
   refine goes_ Tryd.func48 (by kernel_rfl) rfl #[.pointer (some ⟨nb, 0, none⟩), .int .i64 0, .int .i64 ((1 + k : Nat) : Int), .int .i64 bl.f2] (by rfl) rfl rfl (by (try simp only [List.map_toArray, List.map_cons, List.map_nil]); first | done | rfl) ?_
   refine (add_walk nb mb xb B N cnt g.1 g.2 vs6 W6.drew 0 (1 + k) bl.f2 HN6.out hNb (by omega) (by omega) (by have := HNN.out; omega) (wfN (by omega) (by omega)) (fun i => Nat.lt_of_le_of_lt (HG.out.len i) (by omega))).mono ?_
   rintro e w7 ⟨rfl, hn7, hk7⟩
   have HPW7 := Aside0.mk (PW.keep (g' := addG g 0 (1 + k) bl.f2) (HPW6.out.below (below_drew1 (Below.refl _ _))) hk7 hn7)
   have HBL7 := Aside0.mk ((HBL6.out.drew).trans (hk7.bel.mono HBB.out))
   have HJB7 := hid (hk7.blk jb _ _ _ HJB.out (by decide) (by decide))
   have g0_ := (HPW7.out.pr.cells).2.2.1
   have g1_ : w7.cell? ⟨jb, 2, none⟩ = some (.int .i64 bl.f2) := by simp [World.cell?, HJB7.out]
   clear hn7 hk7
   refine ⟨_, rfl, ?_⟩
   refine hK.out _ _ ⟨g0_, g1_⟩ (fun hHeld => ?_)
   clear hK K
   refine norm_ (a' := ?_) ?_ ?_
   rotate_left
   ·show Act.put _ (some 39) _ = _
    simp only [Act.put, List.setIfInBounds_toArray, List.set_cons_zero, List.set_cons_succ, i64_w, i32_w]
    rfl
   refine done_ (by kernel_rfl) ?_
   clear HPW6 HBL6 HJB HN6 HS6 g0_ g1_
   have HS7 := hid (show w7.drew.cell? ⟨pb, 4, none⟩ = some (.int .i64 work) ∧ w7.drew.cell? ⟨jb, 2, none⟩ = some (.int .i64 bl.f2) from ⟨(HPW7.out.pr.cells).2.2.2.2.1, by show w7.cell? _ = _; simp [World.cell?, HJB7.out]⟩)
   have hwr : IntKind.i64.wrap (work + bl.f2) = work + bl.f2 := IntWalk.i64_in _ (by omega)
   have f0 : ∀ j, w7.drew.frozen? ⟨pb, j, none⟩ = false := HPW7.out.pr.cells.2.2.2.2.2
   go_wp2_with (fail)
   refine start_ (n := 10) (S := fun w' => w'.cell? ⟨pb, 4, none⟩ = some (.int .i64 work) ∧ w'.cell? ⟨jb, 2, none⟩ = some (.int .i64 bl.f2)) (ds := [9]) #[false, false, false, false, false, false, false, false, false, false] (by kernel_rfl) rfl rfl HS7.out (fun hHeld => ?_)
   refine pure_ (i := 0) (N := some 40) (v := ?_) (a' := ?_) #[true, false, false, false, false, false, false, false, false, false] rfl rfl (by kernel_rfl) (fun _ _ _ h => h) (Or.inl ⟨by rfl, ?_⟩) ?_ ?_
   rotate_left
   ·intro w'
    go_simp
    with_reducible rfl
   rotate_left
   ·simp only [Act.put, List.setIfInBounds_toArray, List.set_cons_zero, List.set_cons_succ, i64_w, i32_w]
    rfl
   refine pure_ (i := 1) (N := some 41) (v := ?_) (a' := ?_) #[true, true, false, false, false, false, false, false, false, false] rfl rfl (by kernel_rfl) (fun _ _ _ h => h) (Or.inl ⟨by rfl, ?_⟩) ?_ ?_
   rotate_left
   ·intro w'
    go_simp
    with_reducible rfl
   rotate_left
   ·simp only [Act.put, List.setIfInBounds_toArray, List.set_cons_zero, List.set_cons_succ, i64_w, i32_w]
    rfl
   refine pure_ (i := 2) (N := some 42) (v := ?_) (a' := ?_) #[true, true, true, false, false, false, false, false, false, false] rfl rfl (by kernel_rfl) (fun _ _ _ h => h) (Or.inl ⟨by rfl, ?_⟩) ?_ ?_
   rotate_left
   ·intro w'
    go_simp
    with_reducible rfl
   rotate_left
   ·simp only [Act.put, List.setIfInBounds_toArray, List.set_cons_zero, List.set_cons_succ, i64_w, i32_w]
    rfl
   refine pure_ (i := 4) (N := some 44) (v := ?_) (a' := ?_) #[true, true, true, false, true, false, false, false, false, false] rfl rfl (by kernel_rfl) (fun _ _ _ h => h) (Or.inl ⟨by rfl, ?_⟩) ?_ ?_
   rotate_left
   ·intro w'
    go_simp
    with_reducible rfl
   rotate_left
   ·simp only [Act.put, List.setIfInBounds_toArray, List.set_cons_zero, List.set_cons_succ, i64_w, i32_w]
    rfl
   refine take_ (i := 3) (N := some 43) (v := ?_) (a' := ?_) #[true, true, true, true, true, false, false, false, false, false] rfl rfl (by kernel_rfl) (fun _ _ _ h => h) (Or.inl ⟨by rfl, ?_⟩) hHeld ?_ ?_
   rotate_left
   ·rintro w' ⟨s0, s1⟩
    go_simp
    with_reducible rfl
   rotate_left
   ·simp only [Act.put, List.setIfInBounds_toArray, List.set_cons_zero, List.set_cons_succ, i64_w, i32_w]
    rfl
   refine take_ (i := 5) (N := some 45) (v := ?_) (a' := ?_) #[true, true, true, true, true, true, false, false, false, false] rfl rfl (by kernel_rfl) (fun _ _ _ h => h) (Or.inl ⟨by rfl, ?_⟩) hHeld ?_ ?_
   rotate_left
   ·rintro w' ⟨s0, s1⟩
    go_simp
    with_reducible rfl
   rotate_left
   ·simp only [Act.put, List.setIfInBounds_toArray, List.set_cons_zero, List.set_cons_succ, i64_w, i32_w]
    rfl
   refine pure_ (i := 6) (N := some 46) (v := ?_) (a' := ?_) #[true, true, true, true, true, true, true, false, false, false] rfl rfl (by kernel_rfl) (fun _ _ _ h => h) (Or.inl ⟨by rfl, ?_⟩) ?_ ?_
   rotate_left
   ·intro w'
    go_simp
    with_reducible rfl
   rotate_left
   ·simp only [Act.put, List.setIfInBounds_toArray, List.set_cons_zero, List.set_cons_succ, i64_w, i32_w]
    rfl
   refine pure_ (i := 7) (N := some 47) (v := ?_) (a' := ?_) #[true, true, true, true, true, true, true, true, false, false] rfl rfl (by kernel_rfl) (fun _ _ _ h => h) (Or.inl ⟨by rfl, ?_⟩) ?_ ?_
   rotate_left
   ·intro w'
    go_simp
    with_reducible rfl
   rotate_left
   ·simp only [Act.put, List.setIfInBounds_toArray, List.set_cons_zero, List.set_cons_succ, i64_w, i32_w]
    rfl
   refine pure_ (i := 8) (N := some 48) (v := ?_) (a' := ?_) #[true, true, true, true, true, true, true, true, true, false] rfl rfl (by kernel_rfl) (fun _ _ _ h => h) (Or.inl ⟨by rfl, ?_⟩) ?_ ?_
   rotate_left
   ·intro w'
    go_simp
    with_reducible rfl
   rotate_left
   ·simp only [Act.put, List.setIfInBounds_toArray, List.set_cons_zero, List.set_cons_succ, i64_w, i32_w]
    rfl
   refine last_ (i := 9) (N := none) #[true, true, true, true, true, true, true, true, true, true] rfl rfl (by kernel_rfl) (by decide) (fun K hK => ?_)
   refine skip_ (w1 := ?_) (by rfl) rfl ?_ ?_
   rotate_left
   ·go_simp
    rfl
   refine hK.out _ _ ?_
   clear hK K
   refine done_ (by kernel_rfl) ?_
   clear f0
   obtain ⟨W8, hW8⟩ : ∃ W8, W8 = (w7.setCell ⟨pb, 4, none⟩ (.int .i64 (work + bl.f2))).drew := ⟨_, rfl⟩
   have HPW8 := Aside0.mk (show PW gb pb nb mb xb B N b (some ad) l.length c0 A1 c1 ps base (work + bl.f2) (cnt + 1) (addG g 0 (1 + k) bl.f2) W8 by rw [hW8]; exact (HPW7.out.work hpB _).below (below_drew1 (Below.refl _ _)))
   have HBL8 := Aside0.mk (show Below w.heap.size w W8 by rw [hW8]; exact (Below.setCell (p := ⟨pb, 4, none⟩) HBL7.out (by rw [← HGB.out]; exact Nat.le_of_lt hgp) _).drew)
   have hjp : jb ≠ pb := fun e => by
    have h1 := HJB7.out
    have h2 : w7.heap[pb]? = _ := HPW7.out.pr
    rw [e, h2] at h1
    injection h1 with h1
    injection h1 with _ h1
    exact absurd h1 (by decide)
   have HJB8 := hid (show W8.heap[jb]? = some (.cells #[.int .i64 bl.f0, .int .i64 bl.f1, .int .i64 bl.f2] 36 (0, 0)) by rw [hW8]; exact (Below.heap_setCell w7 ⟨pb, 4, none⟩ (.int .i64 (work + bl.f2)) jb hjp).trans HJB7.out)
   rw [← hW8]
   clear hW8 HPW7 HBL7 HJB7 HS7 hjp
   have q3 : W8.cell? ⟨pb, 3, none⟩ = some (.slice A1 ps.length c1) := HPW8.out.pr.cells.2.2.2.1
   go_wp2_with (fail)
   clear q3
   have HG8 : Aside0 (GrOk N (2 * (cnt + 1)) (addG g 0 (1 + k) bl.f2)) := ⟨(HG.out.add (by have := HNN.out; omega) (by have := HNN.out; omega) _).mono (by omega)⟩
   obtain ⟨G2, hG2⟩ : ∃ G2, G2 = gSpans l.length k bl ps 0 (addG g 0 (1 + k) bl.f2) := ⟨_, rfl⟩
   have HJ8 : Aside0 (gSpans l.length k bl (ps.drop 0) 0 (addG g 0 (1 + k) bl.f2) = G2) := ⟨hG2.symm⟩
   have HG2E := hid hG2
   clear hG2
   have hpsv : ∀ s, s ∈ ps → 0 ≤ s.f0 ∧ s.f0 < s.f1 ∧ s.f1 ≤ 1000 := fun s hs => spansF_ok l HV.out s (by rw [← HPS.out]; exact hs)
   have HPV := hid hpsv
   clear hpsv
   go_loopg [54] ps.length (fun kq v54 w' => ∃ (i cnt2 : Nat) (g2 : Gr), v54 = .int .i64 i ∧ i + kq = ps.length ∧ cnt2 ≤ 100 * k + 1 + i ∧ Aside0 (GrOk N (2 * cnt2) g2) ∧ Aside0 (gSpans l.length k bl (ps.drop i) i g2 = G2) ∧ Aside0 (PW gb pb nb mb xb B N b (some ad) l.length c0 A1 c1 ps base (work + bl.f2) cnt2 g2 w') ∧
    Hid (w'.heap[jb]? = some (.cells #[.int .i64 bl.f0, .int .i64 bl.f1, .int .i64 bl.f2] 36 (0, 0))) ∧ Aside0 (Below w.heap.size w w'))
   case atStart => exact ⟨0, cnt + 1, _, rfl, by omega, by omega, HG8, HJ8, HPW8, HJB8, HBL8⟩
   case round =>
    clear HG8 HJ8 HPW8 HJB8 HBL8
    obtain ⟨i, cnt2, g2, rfl, hi, hcnt2, HG2, HJ2, HPW9, HJB9, HBL9⟩ := hrel
    by_cases hlt2 : i < ps.length
    ·have d3 : decide ((i : Int) < (ps.length : Int)) = true := decide_eq_true (by omega)
     obtain ⟨ad1, e1, hs0, hs1⟩ := at_T72 (Kd.R_reads' HPW9.out.pa).2.2 (i : Int) (by omega) (by omega)
     rw [Int.toNat_natCast] at hs0 hs1
     cases e1
     have hlt2' : (i : Int) < (ps.length : Int) := by omega
     have i0 : (0 : Int) ≤ (i : Int) := by omega
     have hdrop2 : ps.drop i = rd_T72 ps (i : Int) :: ps.drop (i + 1) := by
      rw [List.drop_eq_getElem_cons hlt2]
      unfold rd_T72; rw [Int.toNat_natCast, List.getD_eq_getElem?_getD, List.getElem?_eq_getElem hlt2]; rfl
     have hmem : rd_T72 ps (i : Int) ∈ ps := List.mem_of_mem_drop (by rw [hdrop2]; exact List.mem_cons_self)
     have hspv := HPV.out _ hmem
     clear hmem
     have HLT2 := hid hlt2
     obtain ⟨sp, hsp⟩ : ∃ sp, sp = rd_T72 ps (i : Int) := ⟨_, rfl⟩
     rw [← hsp] at hs0 hs1 hspv hdrop2
     clear hsp hlt2
     obtain ⟨s0, s1, s2⟩ := hspv
     have HD2 := hid hdrop2
     clear hdrop2
     have hj2 := HJ2.out
     rw [HD2.out] at hj2
     unfold gSpans at hj2
     have HJ3 := hid hj2
     clear hj2 HJ2
     have c0_ : (wr.alloc (.cells #[.int .i64 sp.f0, .int .i64 sp.f1] 125)).cell? ⟨jb, 0, none⟩ = some (.int .i64 bl.f0) := pw_cell_below (below_alloc (Below.refl _ _) _) (by simp [World.cell?, HJB9.out])
     have c1_ : (wr.alloc (.cells #[.int .i64 sp.f0, .int .i64 sp.f1] 125)).cell? ⟨jb, 1, none⟩ = some (.int .i64 bl.f1) := pw_cell_below (below_alloc (Below.refl _ _) _) (by simp [World.cell?, HJB9.out])
     by_cases hA : bl.f0 ≤ sp.f0
     ·have dA : decide (bl.f0 ≤ sp.f0) = true := decide_eq_true hA
      by_cases hB : sp.f1 ≤ bl.f1
      ·have dB : decide (sp.f1 ≤ bl.f1) = true := decide_eq_true hB
       have hft : fits bl sp = true := decide_eq_true ⟨hA, hB⟩
       have hj4 := HJ3.out
       rw [if_pos hft] at hj4
       have HJ4 := hid hj4
       clear hft hj4 HJ3 hA hB
       go_wp2_with (fail)
       obtain ⟨sb, hsb⟩ : ∃ sb, sb = wr.heap.size := ⟨_, rfl⟩
       obtain ⟨W10, hW10⟩ : ∃ W10, W10 = wr.alloc (.cells #[.int .i64 sp.f0, .int .i64 sp.f1] 125) := ⟨_, rfl⟩
       have hb10 : Below wr.heap.size wr W10 := by rw [hW10]; exact below_alloc (Below.refl _ _) _
       have HSB9 := hid (show W10.heap[sb]? = some (.cells #[.int .i64 sp.f0, .int .i64 sp.f1] 125 (0, 0)) by rw [hW10, hsb]; exact blk_new _ _)
       rw [← hW10, ← hsb]
       clear hW10 hsb hs0 hs1 c0_ c1_
       have HPW10a := Aside0.mk (HPW9.out.below hb10)
       have HBL10a := Aside0.mk (HBL9.out.trans (hb10.mono HBL9.out.size))
       have HJB10a := hid (show W10.heap[jb]? = some (.cells #[.int .i64 bl.f0, .int .i64 bl.f1, .int .i64 bl.f2] 36 (0, 0)) from (hb10.block jb (lt_of_some HJB9.out)).trans HJB9.out)
       clear hb10 HPW9 HBL9 HJB9
       have HPW10 := Aside0.mk (HPW10a.out.below (below_drew1 (Below.refl _ _)))
       have HBL10 := Aside0.mk (HBL10a.out.drew)
       have HJB10 := hid (show W10.drew.heap[jb]? = some (.cells #[.int .i64 bl.f0, .int .i64 bl.f1, .int .i64 bl.f2] 36 (0, 0)) from HJB10a.out)
       have HSB10 := hid (show W10.drew.heap[sb]? = some (.cells #[.int .i64 sp.f0, .int .i64 sp.f1] 125 (0, 0)) from HSB9.out)
       have HS12 := hid (show W10.drew.cell? ⟨pb, 2, none⟩ = some (.pointer (some ⟨nb, 0, none⟩)) ∧ W10.drew.cell? ⟨sb, 0, none⟩ = some (.int .i64 sp.f0) ∧ W10.drew.cell? ⟨sb, 1, none⟩ = some (.int .i64 sp.f1) from ⟨HPW10.out.pr.cells.2.2.1, by show W10.cell? _ = _; simp [World.cell?, HSB9.out], by show W10.cell? _ = _; simp [World.cell?, HSB9.out]⟩)
       clear HPW10a HBL10a HJB10a HSB9
       refine start_ (n := 13) (S := fun w' => w'.cell? ⟨pb, 2, none⟩ = some (.pointer (some ⟨nb, 0, none⟩)) ∧ w'.cell? ⟨sb, 0, none⟩ = some (.int .i64 sp.f0) ∧ w'.cell? ⟨sb, 1, none⟩ = some (.int .i64 sp.f1)) (ds := []) #[false, false, false, false, false, false, false, false, false, false, false, false, false] (by kernel_rfl) rfl rfl HS12.out (fun hHeld => ?_)
       refine pure_ (i := 0) (N := some 71) (v := ?_) (a' := ?_) #[true, false, false, false, false, false, false, false, false, false, false, false, false] rfl rfl (by kernel_rfl) (fun _ _ _ h => h) (Or.inl ⟨by rfl, ?_⟩) ?_ ?_
       rotate_left
       ·intro w'
        go_simp
        with_reducible rfl
       rotate_left
       ·simp only [Act.put, List.setIfInBounds_toArray, List.set_cons_zero, List.set_cons_succ, i64_w, i32_w]
        rfl
       refine pure_ (i := 1) (N := some 72) (v := ?_) (a' := ?_) #[true, true, false, false, false, false, false, false, false, false, false, false, false] rfl rfl (by kernel_rfl) (fun _ _ _ h => h) (Or.inl ⟨by rfl, ?_⟩) ?_ ?_
       rotate_left
       ·intro w'
        go_simp
        with_reducible rfl
       rotate_left
       ·simp only [Act.put, List.setIfInBounds_toArray, List.set_cons_zero, List.set_cons_succ, i64_w, i32_w]
        rfl
       refine pure_ (i := 2) (N := some 73) (v := ?_) (a' := ?_) #[true, true, true, false, false, false, false, false, false, false, false, false, false] rfl rfl (by kernel_rfl) (fun _ _ _ h => h) (Or.inl ⟨by rfl, ?_⟩) ?_ ?_
       rotate_left
       ·intro w'
        go_simp
        with_reducible rfl
       rotate_left
       ·simp only [Act.put, List.setIfInBounds_toArray, List.set_cons_zero, List.set_cons_succ, i64_w, i32_w]
        rfl
       refine take_ (i := 3) (N := some 74) (v := ?_) (a' := ?_) #[true, true, true, true, false, false, false, false, false, false, false, false, false] rfl rfl (by kernel_rfl) (fun _ _ _ h => h) (Or.inl ⟨by rfl, ?_⟩) hHeld ?_ ?_
       rotate_left
       ·rintro w' ⟨s0, s1, s2⟩
        go_simp
        with_reducible rfl
       rotate_left
       ·simp only [Act.put, List.setIfInBounds_toArray, List.set_cons_zero, List.set_cons_succ, i64_w, i32_w]
        rfl
       refine pure_ (i := 4) (N := some 75) (v := ?_) (a' := ?_) #[true, true, true, true, true, false, false, false, false, false, false, false, false] rfl rfl (by kernel_rfl) (fun _ _ _ h => h) (Or.inl ⟨by rfl, ?_⟩) ?_ ?_
       rotate_left
       ·intro w'
        go_simp
        with_reducible rfl
       rotate_left
       ·simp only [Act.put, List.setIfInBounds_toArray, List.set_cons_zero, List.set_cons_succ, i64_w, i32_w]
        rfl
       refine pure_ (i := 5) (N := some 76) (v := ?_) (a' := ?_) #[true, true, true, true, true, true, false, false, false, false, false, false, false] rfl rfl (by kernel_rfl) (fun _ _ _ h => h) (Or.inl ⟨by rfl, ?_⟩) ?_ ?_
       rotate_left
       ·intro w'
        go_simp
        with_reducible rfl
       rotate_left
       ·simp only [Act.put, List.setIfInBounds_toArray, List.set_cons_zero, List.set_cons_succ, i64_w, i32_w]
        rfl
       refine pure_ (i := 7) (N := some 78) (v := ?_) (a' := ?_) #[true, true, true, true, true, true, false, true, false, false, false, false, false] rfl rfl (by kernel_rfl) (fun _ _ _ h => h) (Or.inl ⟨by rfl, ?_⟩) ?_ ?_
       rotate_left
       ·intro w'
        go_simp
        with_reducible rfl
       rotate_left
       ·simp only [Act.put, List.setIfInBounds_toArray, List.set_cons_zero, List.set_cons_succ, i64_w, i32_w]
        rfl
       refine pure_ (i := 8) (N := some 79) (v := ?_) (a' := ?_) #[true, true, true, true, true, true, false, true, true, false, false, false, false] rfl rfl (by kernel_rfl) (fun _ _ _ h => h) (Or.inl ⟨by rfl, ?_⟩) ?_ ?_
       rotate_left
       ·intro w'
        go_simp
        with_reducible rfl
       rotate_left
       ·simp only [Act.put, List.setIfInBounds_toArray, List.set_cons_zero, List.set_cons_succ, i64_w, i32_w]
        rfl
       refine take_ (i := 10) (N := some 81) (v := ?_) (a' := ?_) #[true, true, true, true, true, true, false, true, true, false, true, false, false] rfl rfl (by kernel_rfl) (fun _ _ _ h => h) (Or.inl ⟨by rfl, ?_⟩) hHeld ?_ ?_
       rotate_left
       ·rintro w' ⟨s0, s1, s2⟩
        go_simp
        with_reducible rfl
       rotate_left
       ·simp only [Act.put, List.setIfInBounds_toArray, List.set_cons_zero, List.set_cons_succ, i64_w, i32_w]
        rfl
       refine one_ (i := 6) (N := some 77) #[true, true, true, true, true, true, true, true, true, false, true, false, false] rfl rfl (by kernel_rfl) (by decide) (fun K hK => ?_)
       refine goes_ Tryd.func49 (by kernel_rfl) rfl #[.pointer (some ⟨pb, 0, none⟩), .int .i64 k] (by rfl) rfl rfl (by (try simp only [List.map_toArray, List.map_cons, List.map_nil]); first | done | rfl) ?_
       refine (job_walk pb k _ (by omega)).mono ?_
       rintro e w9 ⟨rfl, rfl⟩
       refine ⟨_, rfl, ?_⟩
       refine hK.out _ _ HS12.out (fun hHeld => ?_)
       clear hK K
       refine norm_ (a' := ?_) ?_ ?_
       rotate_left
       ·show Act.put _ (some 77) _ = _
        simp only [Act.put, List.setIfInBounds_toArray, List.set_cons_zero, List.set_cons_succ, i64_w, i32_w]
        rfl
       refine one_ (i := 9) (N := some 80) #[true, true, true, true, true, true, true, true, true, true, true, false, false] rfl rfl (by kernel_rfl) (by decide) (fun K hK => ?_)
       refine goes_ Tryd.func50 (by kernel_rfl) rfl #[.pointer (some ⟨pb, 0, none⟩), .int .i64 i] (by rfl) rfl rfl (by (try simp only [List.map_toArray, List.map_cons, List.map_nil]); first | done | rfl) ?_
       refine (part_walk pb b _ l.length c0 _ _ ps.length c1 _ i _ (HPW10.out.pr) (by omega) (by omega)).mono ?_
       rintro e w9 ⟨rfl, rfl⟩
       refine ⟨_, rfl, ?_⟩
       refine hK.out _ _ HS12.out (fun hHeld => ?_)
       clear hK K
       refine norm_ (a' := ?_) ?_ ?_
       rotate_left
       ·show Act.put _ (some 80) _ = _
        simp only [Act.put, List.setIfInBounds_toArray, List.set_cons_zero, List.set_cons_succ, i64_w, i32_w]
        rfl
       refine one_ (i := 11) (N := some 82) #[true, true, true, true, true, true, true, true, true, true, true, true, false] rfl rfl (by kernel_rfl) (by decide) (fun K hK => ?_)
       refine goes_ Tryd.func51 (by kernel_rfl) rfl #[.agg #[.int .i64 sp.f0, .int .i64 sp.f1]] (by rfl) rfl rfl (by (try simp only [List.map_toArray, List.map_cons, List.map_nil]); first | done | rfl) ?_
       refine (length_walk sp.f0 sp.f1 _ (by omega) (by omega) (by omega) (by omega)).mono ?_
       rintro e w11 ⟨rfl, hb11⟩
       have HPW11 := Aside0.mk (HPW10.out.below hb11)
       have HBL11 := Aside0.mk (HBL10.out.trans (hb11.mono HBL10.out.size))
       have HJB11 := hid ((hb11.block jb (lt_of_some HJB10.out)).trans HJB10.out)
       have HSB11 := hid ((hb11.block sb (lt_of_some HSB10.out)).trans HSB10.out)
       have g0_ := pw_cell_below hb11 HS12.out.1
       have g1_ := pw_cell_below hb11 HS12.out.2.1
       have g2_ := pw_cell_below hb11 HS12.out.2.2
       have HS13 := hid (And.intro g0_ (And.intro g1_ g2_))
       obtain ⟨vs11, hn11⟩ := HPW11.out.net
       have HN11 := hid hn11
       clear hb11 hn11 g0_ g1_ g2_
       refine ⟨_, rfl, ?_⟩
       refine hK.out _ _ HS13.out (fun hHeld => ?_)
       clear hK K
       refine norm_ (a' := ?_) ?_ ?_
       rotate_left
       ·show Act.put _ (some 82) _ = _
        simp only [Act.put, List.setIfInBounds_toArray, List.set_cons_zero, List.set_cons_succ, i64_w, i32_w]
        rfl
       refine one_ (i := 12) (N := some 83) #[true, true, true, true, true, true, true, true, true, true, true, true, true] rfl rfl (by kernel_rfl) (by decide) (fun K hK => ?_)
       refine goes_ Tryd.func48 (by kernel_rfl) rfl #[.pointer (some ⟨nb, 0, none⟩), .int .i64 ((1 + k : Nat) : Int), .int .i64 ((1 + l.length + i : Nat) : Int), .int .i64 (sp.f1 - sp.f0)] (by rfl) rfl rfl (by (try simp only [List.map_toArray, List.map_cons, List.map_nil]); first | done | rfl) ?_
       refine (add_walk nb mb xb B N cnt2 g2.1 g2.2 vs11 w11 (1 + k) (1 + l.length + i) (sp.f1 - sp.f0) HN11.out hNb (by omega) (by have := HNN.out; omega) (by have := HNN.out; omega) (wfN (by omega) (by omega)) (fun i => Nat.lt_of_le_of_lt (HG2.out.len i) (by omega))).mono ?_
       rintro e w12 ⟨rfl, hn12, hk12⟩
       have HPW12 := Aside0.mk (PW.keep (g' := addG g2 (1 + k) (1 + l.length + i) (sp.f1 - sp.f0)) HPW11.out hk12 hn12)
       have HBL12 := Aside0.mk (HBL11.out.trans (hk12.bel.mono HBB.out))
       have HJB12 := hid (hk12.blk jb _ _ _ HJB11.out (by decide) (by decide))
       have HSB12 := hid (hk12.blk sb _ _ _ ((show w11.heap[sb]? = _ from HSB11.out)) (by decide) (by decide))
       have g0_ := (HPW12.out.pr.cells).2.2.1
       have g1_ : w12.cell? ⟨sb, 0, none⟩ = some (.int .i64 sp.f0) := by simp [World.cell?, HSB12.out]
       have g2_ : w12.cell? ⟨sb, 1, none⟩ = some (.int .i64 sp.f1) := by simp [World.cell?, HSB12.out]
       clear hn12 hk12
       refine ⟨_, rfl, ?_⟩
       refine hK.out _ _ ⟨g0_, g1_, g2_⟩ (fun hHeld => ?_)
       clear hK K
       refine norm_ (a' := ?_) ?_ ?_
       rotate_left
       ·show Act.put _ (some 83) _ = _
        simp only [Act.put, List.setIfInBounds_toArray, List.set_cons_zero, List.set_cons_succ, i64_w, i32_w]
        rfl
       refine done_ (by kernel_rfl) ?_
       clear g0_ g1_ g2_
       have HG3 : Aside0 (GrOk N (2 * (cnt2 + 1)) (addG g2 (1 + k) (1 + l.length + i) (sp.f1 - sp.f0))) := ⟨(HG2.out.add (by have := HNN.out; omega) (by have := HNN.out; have := HLT2.out; omega) _).mono (by omega)⟩
       go_wp2_with (fail)
       go_roundg (gk - 1)
       case rel =>
        exact ⟨i + 1, cnt2 + 1, _, by go_num, by have := HLT2.out; omega, by omega, HG3, ⟨HJ4.out⟩, HPW12, HJB12, HBL12⟩
       case measure => have := HLT2.out; omega
      ·have dB : decide (sp.f1 ≤ bl.f1) = false := decide_eq_false hB
       have hft : ¬ fits bl sp = true := fun h => hB (of_decide_eq_true h).2
       have hj4 := HJ3.out
       rw [if_neg hft] at hj4
       have HJ4 := hid hj4
       clear hft hj4 HJ3 hA hB
       go_wp2_with (fail)
       go_roundg (gk - 1)
       case rel =>
        exact ⟨i + 1, cnt2, g2, by go_num, by have := HLT2.out; omega, by omega, HG2, ⟨HJ4.out⟩, ⟨HPW9.out.below (below_alloc (Below.refl _ _) _)⟩, hid (((below_alloc (Below.refl wr.heap.size wr) (.cells #[.int .i64 sp.f0, .int .i64 sp.f1] 125)).block jb (lt_of_some HJB9.out)).trans HJB9.out), ⟨below_alloc HBL9.out _⟩⟩
       case measure => have := HLT2.out; omega
     ·have dA : decide (bl.f0 ≤ sp.f0) = false := decide_eq_false hA
      have hft : ¬ fits bl sp = true := fun h => hA (of_decide_eq_true h).1
      have hj4 := HJ3.out
      rw [if_neg hft] at hj4
      have HJ4 := hid hj4
      clear hft hj4 HJ3 hA
      go_wp2_with (fail)
      go_roundg (gk - 1)
      case rel =>
       exact ⟨i + 1, cnt2, g2, by go_num, by have := HLT2.out; omega, by omega, HG2, ⟨HJ4.out⟩, ⟨HPW9.out.below (below_alloc (Below.refl _ _) _)⟩, hid (((below_alloc (Below.refl wr.heap.size wr) (.cells #[.int .i64 sp.f0, .int .i64 sp.f1] 125)).block jb (lt_of_some HJB9.out)).trans HJB9.out), ⟨below_alloc HBL9.out _⟩⟩
      case measure => have := HLT2.out; omega
    ·have d3 : decide ((i : Int) < (ps.length : Int)) = false := decide_eq_false (by omega)
     have hj2 := HJ2.out
     rw [List.drop_eq_nil_of_le (by omega)] at hj2
     have hj3 : g2 = G2 := hj2
     have hj5 : gJobs l.length ps (l.drop (k + 1)) (k + 1) g2 = G1 := by
      have h := HJ.out
      rw [HD.out] at h
      rw [hj3, HG2E.out]
      exact h
     have hw5 : work + bl.f2 + workF (l.drop (k + 1)) = workF l := by
      have h := HW.out
      rw [HD.out] at h
      have e : workF (bl :: l.drop (k + 1)) = bl.f2 + workF (l.drop (k + 1)) := by unfold workF; rw [List.map_cons, List.sum_cons]
      omega
     have HJ5 := Aside0.mk hj5
     have HW5 := Aside0.mk hw5
     clear hj2 hj3 hj5 hw5 HJ2 HG2E
     go_wp2_with (fail)
     go_roundg (l.length - (k + 1))
     case rel => exact ⟨k + 1, cnt2, g2, work + bl.f2, by go_num, by have := HLT.out; omega, by omega, by omega, by omega, HG2, HJ5, HW5, HPW9, HBL9⟩
     case measure => have := HLT.out; omega
  ·have d2 : decide ((k : Int) < (l.length : Int)) = false := decide_eq_false (by omega)
   have hj2 := HJ.out
   rw [List.drop_eq_nil_of_le (by omega)] at hj2
   have hj3 : g = G1 := hj2
   have hw3 : work = workF l := by
    have h := HW.out
    rw [List.drop_eq_nil_of_le (by omega)] at h
    have e : workF [] = 0 := rfl
    omega
   subst hj3
   have HWE := hid hw3
   clear hj2 hw3 HJ HW
   have hpsv : ∀ s, s ∈ ps → 0 ≤ s.f0 ∧ s.f0 < s.f1 ∧ s.f1 ≤ 1000 := fun s hs => spansF_ok l HV.out s (by rw [← HPS.out]; exact hs)
   have HPV := hid hpsv
   clear hpsv
   have q3 : wr.cell? ⟨pb, 3, none⟩ = some (.slice A1 ps.length c1) := HPW.out.pr.cells.2.2.2.1
   have HBB := hid (show w.heap.size ≤ B by rw [← HGB.out]; omega)
   go_wp2_with (fail)
   clear q3
   have HJ8 : Aside0 (gEnds b l.length ps.length (ps.drop 0) 0 g = gEnds b l.length ps.length ps 0 g) := ⟨rfl⟩
   obtain ⟨G2, hG2⟩ : ∃ G2, G2 = gEnds b l.length ps.length ps 0 g := ⟨_, rfl⟩
   rw [← hG2] at HJ8
   have HG2E := hid hG2
   have HG1E := hid (show g = gJobs l.length ps l 0 g0 from HG1.out)
   clear hG2
   go_loopg [91] ps.length (fun kq v91 w' => ∃ (i cnt2 : Nat) (g2 : Gr), v91 = .int .i64 i ∧ i + kq = ps.length ∧ cnt2 ≤ 100 * k + i ∧ Aside0 (GrOk N (2 * cnt2) g2) ∧ Aside0 (gEnds b l.length ps.length (ps.drop i) i g2 = G2) ∧ Aside0 (PW gb pb nb mb xb B N b A0 l.length c0 A1 c1 ps base work cnt2 g2 w') ∧ Aside0 (Below w.heap.size w w'))
   case atStart => exact ⟨0, cnt, g, rfl, by omega, by omega, HG, HJ8, HPW, HBL⟩
   case round =>
    clear HG HJ8 HPW HBL
    obtain ⟨i, cnt2, g2, rfl, hi, hcnt2, HG2, HJ2, HPW9, HBL9⟩ := hrel
    by_cases hlt2 : i < ps.length
    ·have d3 : decide ((i : Int) < (ps.length : Int)) = true := decide_eq_true (by omega)
     obtain ⟨ad1, e1, hs0, hs1⟩ := at_T72 (Kd.R_reads' HPW9.out.pa).2.2 (i : Int) (by omega) (by omega)
     rw [Int.toNat_natCast] at hs0 hs1
     cases e1
     have hlt2' : (i : Int) < (ps.length : Int) := by omega
     have i0 : (0 : Int) ≤ (i : Int) := by omega
     have hdrop2 : ps.drop i = rd_T72 ps (i : Int) :: ps.drop (i + 1) := by
      rw [List.drop_eq_getElem_cons hlt2]
      unfold rd_T72; rw [Int.toNat_natCast, List.getD_eq_getElem?_getD, List.getElem?_eq_getElem hlt2]; rfl
     have hmem : rd_T72 ps (i : Int) ∈ ps := List.mem_of_mem_drop (by rw [hdrop2]; exact List.mem_cons_self)
     have hspv := HPV.out _ hmem
     clear hmem
     have HLT2 := hid hlt2
     obtain ⟨sp, hsp⟩ : ∃ sp, sp = rd_T72 ps (i : Int) := ⟨_, rfl⟩
     rw [← hsp] at hs0 hs1 hspv hdrop2
     clear hsp hlt2
     obtain ⟨s0, s1, s2⟩ := hspv
     have HD2 := hid hdrop2
     clear hdrop2
     have hj2 := HJ2.out
     rw [HD2.out] at hj2
     unfold gEnds at hj2
     have HJ4 := hid hj2
     clear hj2 HJ2
     have hmul : 0 ≤ (b : Int) * (sp.f1 - sp.f0) ∧ (b : Int) * (sp.f1 - sp.f0) ≤ 8000 := by
      refine ⟨Int.mul_nonneg (by omega) (by omega), ?_⟩
      have := Int.mul_le_mul (show (b : Int) ≤ 8 by omega) (show sp.f1 - sp.f0 ≤ 1000 by omega) (by omega) (by omega)
      omega
     obtain ⟨hmul0, hmul1⟩ := hmul
     have hwr : IntKind.i64.wrap ((b : Int) * (sp.f1 - sp.f0)) = (b : Int) * (sp.f1 - sp.f0) := IntWalk.i64_in _ (by omega)
     go_wp2_with (fail)
     obtain ⟨sb, hsb⟩ : ∃ sb, sb = wr.heap.size := ⟨_, rfl⟩
     obtain ⟨W10, hW10⟩ : ∃ W10, W10 = wr.alloc (.cells #[.int .i64 sp.f0, .int .i64 sp.f1] 125) := ⟨_, rfl⟩
     have hb10 : Below wr.heap.size wr W10 := by rw [hW10]; exact below_alloc (Below.refl _ _) _
     have HSB9 := hid (show W10.heap[sb]? = some (.cells #[.int .i64 sp.f0, .int .i64 sp.f1] 125 (0, 0)) by rw [hW10, hsb]; exact blk_new _ _)
     rw [← hW10, ← hsb]
     clear hW10 hsb hs0 hs1
     have HPW10 := Aside0.mk ((HPW9.out.below hb10).below (below_drew1 (Below.refl _ _)))
     have HBL10 := Aside0.mk (HBL9.out.trans (hb10.mono HBL9.out.size)).drew
     have HSB10 := hid (show W10.drew.heap[sb]? = some (.cells #[.int .i64 sp.f0, .int .i64 sp.f1] 125 (0, 0)) from HSB9.out)
     clear hb10 HPW9 HBL9
     have HS12 := hid (show W10.drew.cell? ⟨pb, 2, none⟩ = some (.pointer (some ⟨nb, 0, none⟩)) ∧ W10.drew.cell? ⟨sb, 0, none⟩ = some (.int .i64 sp.f0) ∧ W10.drew.cell? ⟨sb, 1, none⟩ = some (.int .i64 sp.f1) ∧ W10.drew.cell? ⟨gb, 0, none⟩ = some (.int .i64 b) from ⟨HPW10.out.pr.cells.2.2.1, by show W10.cell? _ = _; simp [World.cell?, HSB9.out], by show W10.cell? _ = _; simp [World.cell?, HSB9.out], by have h := HPW10.out.tb; simp only [World.cell?, h]; rfl⟩)
     clear HSB9
     refine start_ (n := 15) (S := fun w' => w'.cell? ⟨pb, 2, none⟩ = some (.pointer (some ⟨nb, 0, none⟩)) ∧ w'.cell? ⟨sb, 0, none⟩ = some (.int .i64 sp.f0) ∧ w'.cell? ⟨sb, 1, none⟩ = some (.int .i64 sp.f1) ∧ w'.cell? ⟨gb, 0, none⟩ = some (.int .i64 b)) (ds := []) #[false, false, false, false, false, false, false, false, false, false, false, false, false, false, false] (by kernel_rfl) rfl rfl HS12.out (fun hHeld => ?_)
     refine pure_ (i := 0) (N := some 96) (v := ?_) (a' := ?_) #[true, false, false, false, false, false, false, false, false, false, false, false, false, false, false] rfl rfl (by kernel_rfl) (fun _ _ _ h => h) (Or.inl ⟨by rfl, ?_⟩) ?_ ?_
     rotate_left
     ·intro w'
      go_simp
      with_reducible rfl
     rotate_left
     ·simp only [Act.put, List.setIfInBounds_toArray, List.set_cons_zero, List.set_cons_succ, i64_w, i32_w]
      rfl
     refine pure_ (i := 1) (N := some 97) (v := ?_) (a' := ?_) #[true, true, false, false, false, false, false, false, false, false, false, false, false, false, false] rfl rfl (by kernel_rfl) (fun _ _ _ h => h) (Or.inl ⟨by rfl, ?_⟩) ?_ ?_
     rotate_left
     ·intro w'
      go_simp
      with_reducible rfl
     rotate_left
     ·simp only [Act.put, List.setIfInBounds_toArray, List.set_cons_zero, List.set_cons_succ, i64_w, i32_w]
      rfl
     refine pure_ (i := 2) (N := some 98) (v := ?_) (a' := ?_) #[true, true, true, false, false, false, false, false, false, false, false, false, false, false, false] rfl rfl (by kernel_rfl) (fun _ _ _ h => h) (Or.inl ⟨by rfl, ?_⟩) ?_ ?_
     rotate_left
     ·intro w'
      go_simp
      with_reducible rfl
     rotate_left
     ·simp only [Act.put, List.setIfInBounds_toArray, List.set_cons_zero, List.set_cons_succ, i64_w, i32_w]
      rfl
     refine take_ (i := 3) (N := some 99) (v := ?_) (a' := ?_) #[true, true, true, true, false, false, false, false, false, false, false, false, false, false, false] rfl rfl (by kernel_rfl) (fun _ _ _ h => h) (Or.inl ⟨by rfl, ?_⟩) hHeld ?_ ?_
     rotate_left
     ·rintro w' ⟨s0, s1, s2, s3⟩
      go_simp
      with_reducible rfl
     rotate_left
     ·simp only [Act.put, List.setIfInBounds_toArray, List.set_cons_zero, List.set_cons_succ, i64_w, i32_w]
      rfl
     refine pure_ (i := 4) (N := some 100) (v := ?_) (a' := ?_) #[true, true, true, true, true, false, false, false, false, false, false, false, false, false, false] rfl rfl (by kernel_rfl) (fun _ _ _ h => h) (Or.inl ⟨by rfl, ?_⟩) ?_ ?_
     rotate_left
     ·intro w'
      go_simp
      with_reducible rfl
     rotate_left
     ·simp only [Act.put, List.setIfInBounds_toArray, List.set_cons_zero, List.set_cons_succ, i64_w, i32_w]
      rfl
     refine pure_ (i := 5) (N := some 101) (v := ?_) (a' := ?_) #[true, true, true, true, true, true, false, false, false, false, false, false, false, false, false] rfl rfl (by kernel_rfl) (fun _ _ _ h => h) (Or.inl ⟨by rfl, ?_⟩) ?_ ?_
     rotate_left
     ·intro w'
      go_simp
      with_reducible rfl
     rotate_left
     ·simp only [Act.put, List.setIfInBounds_toArray, List.set_cons_zero, List.set_cons_succ, i64_w, i32_w]
      rfl
     refine pure_ (i := 7) (N := some 103) (v := ?_) (a' := ?_) #[true, true, true, true, true, true, false, true, false, false, false, false, false, false, false] rfl rfl (by kernel_rfl) (fun _ _ _ h => h) (Or.inl ⟨by rfl, ?_⟩) ?_ ?_
     rotate_left
     ·intro w'
      go_simp
      with_reducible rfl
     rotate_left
     ·simp only [Act.put, List.setIfInBounds_toArray, List.set_cons_zero, List.set_cons_succ, i64_w, i32_w]
      rfl
     refine pure_ (i := 9) (N := some 105) (v := ?_) (a' := ?_) #[true, true, true, true, true, true, false, true, false, true, false, false, false, false, false] rfl rfl (by kernel_rfl) (fun _ _ _ h => h) (Or.inl ⟨by rfl, ?_⟩) ?_ ?_
     rotate_left
     ·intro w'
      go_simp
      with_reducible rfl
     rotate_left
     ·simp only [Act.put, List.setIfInBounds_toArray, List.set_cons_zero, List.set_cons_succ, i64_w, i32_w]
      rfl
     refine take_ (i := 10) (N := some 106) (v := ?_) (a' := ?_) #[true, true, true, true, true, true, false, true, false, true, true, false, false, false, false] rfl rfl (by kernel_rfl) (fun _ _ _ h => h) (Or.inl ⟨by rfl, ?_⟩) hHeld ?_ ?_
     rotate_left
     ·rintro w' ⟨s0, s1, s2, s3⟩
      go_simp
      with_reducible rfl
     rotate_left
     ·simp only [Act.put, List.setIfInBounds_toArray, List.set_cons_zero, List.set_cons_succ, i64_w, i32_w]
      rfl
     refine take_ (i := 11) (N := some 107) (v := ?_) (a' := ?_) #[true, true, true, true, true, true, false, true, false, true, true, true, false, false, false] rfl rfl (by kernel_rfl) (fun _ _ _ h => h) (Or.inl ⟨by rfl, ?_⟩) hHeld ?_ ?_
     rotate_left
     ·rintro w' ⟨s0, s1, s2, s3⟩
      go_simp
      with_reducible rfl
     rotate_left
     ·simp only [Act.put, List.setIfInBounds_toArray, List.set_cons_zero, List.set_cons_succ, i64_w, i32_w]
      rfl
     refine one_ (i := 6) (N := some 102) #[true, true, true, true, true, true, true, true, false, true, true, true, false, false, false] rfl rfl (by kernel_rfl) (by decide) (fun K hK => ?_)
     refine goes_ Tryd.func50 (by kernel_rfl) rfl #[.pointer (some ⟨pb, 0, none⟩), .int .i64 i] (by rfl) rfl rfl (by (try simp only [List.map_toArray, List.map_cons, List.map_nil]); first | done | rfl) ?_
     refine (part_walk pb b _ l.length c0 _ _ ps.length c1 _ i _ (HPW10.out.pr) (by omega) (by omega)).mono ?_
     rintro e w9 ⟨rfl, rfl⟩
     refine ⟨_, rfl, ?_⟩
     refine hK.out _ _ HS12.out (fun hHeld => ?_)
     clear hK K
     refine norm_ (a' := ?_) ?_ ?_
     rotate_left
     ·show Act.put _ (some 102) _ = _
      simp only [Act.put, List.setIfInBounds_toArray, List.set_cons_zero, List.set_cons_succ, i64_w, i32_w]
      rfl
     refine one_ (i := 8) (N := some 104) #[true, true, true, true, true, true, true, true, true, true, true, true, false, false, false] rfl rfl (by kernel_rfl) (by decide) (fun K hK => ?_)
     refine goes_ Tryd.func32 (by kernel_rfl) rfl #[.pointer (some ⟨pb, 0, none⟩)] (by rfl) rfl rfl (by (try simp only [List.map_toArray, List.map_cons, List.map_nil]); first | done | rfl) ?_
     refine (last_walk pb b _ l.length c0 _ _ ps.length c1 _ _ (HPW10.out.pr) (by omega) (by omega)).mono ?_
     rintro e w9 ⟨rfl, q9, rfl⟩
     have hb9 := pw_below_drewN (Below.refl W10.drew.heap.size W10.drew) q9
     have HPW9b := Aside0.mk (HPW10.out.below hb9)
     have HBL9b := Aside0.mk (HBL10.out.trans (hb9.mono HBL10.out.size))
     have HTB9b := hid ((hb9.block gb (lt_of_some HPW10.out.tb)).trans HPW10.out.tb)
     have HSB9b := hid ((hb9.block sb (lt_of_some HSB10.out)).trans HSB10.out)
     have h0_ := pw_cell_below hb9 HS12.out.1
     have h1_ := pw_cell_below hb9 HS12.out.2.1
     have h2_ := pw_cell_below hb9 HS12.out.2.2.1
     have h3_ := pw_cell_below hb9 HS12.out.2.2.2
     have HS13 := hid (And.intro h0_ (And.intro h1_ (And.intro h2_ h3_)))
     clear hb9 h0_ h1_ h2_ h3_
     refine ⟨_, rfl, ?_⟩
     refine hK.out _ _ HS13.out (fun hHeld => ?_)
     clear hK K
     refine norm_ (a' := ?_) ?_ ?_
     rotate_left
     ·show Act.put _ (some 104) _ = _
      simp only [Act.put, List.setIfInBounds_toArray, List.set_cons_zero, List.set_cons_succ, i64_w, i32_w]
      rfl
     refine one_ (i := 12) (N := some 108) #[true, true, true, true, true, true, true, true, true, true, true, true, true, false, false] rfl rfl (by kernel_rfl) (by decide) (fun K hK => ?_)
     refine goes_ Tryd.func51 (by kernel_rfl) rfl #[.agg #[.int .i64 sp.f0, .int .i64 sp.f1]] (by rfl) rfl rfl (by (try simp only [List.map_toArray, List.map_cons, List.map_nil]); first | done | rfl) ?_
     refine (length_walk sp.f0 sp.f1 _ (by omega) (by omega) (by omega) (by omega)).mono ?_
     rintro e w11 ⟨rfl, hb11⟩
     have HPW11 := Aside0.mk (HPW9b.out.below hb11)
     have HBL11 := Aside0.mk (HBL9b.out.trans (hb11.mono HBL9b.out.size))
     have HTB11 := hid ((hb11.block gb (lt_of_some HTB9b.out)).trans HTB9b.out)
     have HSB11 := hid ((hb11.block sb (lt_of_some HSB9b.out)).trans HSB9b.out)
     have g0_ := pw_cell_below hb11 HS13.out.1
     have g1_ := pw_cell_below hb11 HS13.out.2.1
     have g2_ := pw_cell_below hb11 HS13.out.2.2.1
     have g3_ := pw_cell_below hb11 HS13.out.2.2.2
     have HS14 := hid (And.intro g0_ (And.intro g1_ (And.intro g2_ g3_)))
     obtain ⟨vs11, hn11⟩ := HPW11.out.net
     have HN11 := hid hn11
     clear hb11 hn11 g0_ g1_ g2_ g3_
     refine ⟨_, rfl, ?_⟩
     refine hK.out _ _ HS14.out (fun hHeld => ?_)
     clear hK K
     refine norm_ (a' := ?_) ?_ ?_
     rotate_left
     ·show Act.put _ (some 108) _ = _
      simp only [Act.put, List.setIfInBounds_toArray, List.set_cons_zero, List.set_cons_succ, i64_w, i32_w]
      rfl
     refine pure_ (i := 13) (N := some 109) (v := ?_) (a' := ?_) #[true, true, true, true, true, true, true, true, true, true, true, true, true, true, false] rfl rfl (by kernel_rfl) (fun _ _ _ h => h) (Or.inl ⟨by rfl, ?_⟩) ?_ ?_
     rotate_left
     ·intro w'
      go_simp
      with_reducible rfl
     rotate_left
     ·simp only [Act.put, List.setIfInBounds_toArray, List.set_cons_zero, List.set_cons_succ, i64_w, i32_w]
      rfl
     refine one_ (i := 14) (N := some 110) #[true, true, true, true, true, true, true, true, true, true, true, true, true, true, true] rfl rfl (by kernel_rfl) (by decide) (fun K hK => ?_)
     refine goes_ Tryd.func48 (by kernel_rfl) rfl #[.pointer (some ⟨nb, 0, none⟩), .int .i64 ((1 + l.length + i : Nat) : Int), .int .i64 ((1 + l.length + ps.length : Nat) : Int), .int .i64 ((b : Int) * (sp.f1 - sp.f0))] (by rfl) rfl rfl (by (try simp only [List.map_toArray, List.map_cons, List.map_nil]); first | done | rfl) ?_
     refine (add_walk nb mb xb B N cnt2 g2.1 g2.2 vs11 w11 (1 + l.length + i) (1 + l.length + ps.length) ((b : Int) * (sp.f1 - sp.f0)) HN11.out hNb (by omega) (by have := HNN.out; omega) (by have := HNN.out; omega) (wfN (by omega) (by omega)) (fun i => Nat.lt_of_le_of_lt (HG2.out.len i) (by omega))).mono ?_
     rintro e w12 ⟨rfl, hn12, hk12⟩
     have HPW12 := Aside0.mk (PW.keep (g' := addG g2 (1 + l.length + i) (1 + l.length + ps.length) ((b : Int) * (sp.f1 - sp.f0))) HPW11.out hk12 hn12)
     have HBL12 := Aside0.mk (HBL11.out.trans (hk12.bel.mono HBB.out))
     have HSB12 := hid (hk12.blk sb _ _ _ ((show w11.heap[sb]? = _ from HSB11.out)) (by decide) (by decide))
     have HTB12 := hid (hk12.blk gb _ _ _ ((show w11.heap[gb]? = _ from HTB11.out)) (by decide) (by decide))
     have g0_ := (HPW12.out.pr.cells).2.2.1
     have g1_ : w12.cell? ⟨sb, 0, none⟩ = some (.int .i64 sp.f0) := by simp [World.cell?, HSB12.out]
     have g2_ : w12.cell? ⟨sb, 1, none⟩ = some (.int .i64 sp.f1) := by simp [World.cell?, HSB12.out]
     have g3_ : w12.cell? ⟨gb, 0, none⟩ = some (.int .i64 b) := by simp [World.cell?, HTB12.out]
     clear hn12 hk12
     refine ⟨_, rfl, ?_⟩
     refine hK.out _ _ ⟨g0_, g1_, g2_, g3_⟩ (fun hHeld => ?_)
     clear hK K
     refine norm_ (a' := ?_) ?_ ?_
     rotate_left
     ·show Act.put _ (some 110) _ = _
      simp only [Act.put, List.setIfInBounds_toArray, List.set_cons_zero, List.set_cons_succ, i64_w, i32_w]
      rfl
     refine done_ (by kernel_rfl) ?_
     clear g0_ g1_ g2_ g3_
     have HG3 : Aside0 (GrOk N (2 * (cnt2 + 1)) (addG g2 (1 + l.length + i) (1 + l.length + ps.length) ((b : Int) * (sp.f1 - sp.f0)))) := ⟨(HG2.out.add (by have := HNN.out; have := HLT2.out; omega) (by have := HNN.out; omega) _).mono (by omega)⟩
     go_wp2_with (fail)
     go_roundg (gk - 1)
     case rel => exact ⟨i + 1, cnt2 + 1, _, by go_num, by have := HLT2.out; omega, by omega, HG3, ⟨HJ4.out⟩, HPW12, HBL12⟩
     case measure => have := HLT2.out; omega
    ·have d3 : decide ((i : Int) < (ps.length : Int)) = false := decide_eq_false (by omega)
     have hj2 := HJ2.out
     rw [List.drop_eq_nil_of_le (by omega)] at hj2
     have hj3 : g2 = G2 := hj2
     have HJ3 := hid (show g2 = probG b l ps from by rw [hj3, HG2E.out, HG1E.out, HG0E.out]; rfl)
     clear hj2 hj3 HJ2
     go_wp2_with (fail)
     go_ret
     obtain ⟨vs9, hn9⟩ := HPW9.out.net
     refine ⟨pb, nb, mb, xb, B, cnt2, A1, c1, vs9, rfl, ?_, ?_, HBB.out, by omega, ?_, hpB, HBL9.out⟩
     ·rw [← HPS.out, ← HWE.out]; exact HPW9.out.pr
     ·rw [← HPS.out]; exact ⟨base, HPW9.out.pa⟩
     ·rw [← HPS.out, ← HJ3.out, ← HNN.out]; exact hn9
end Go.Proofs.YtiioklboaookiaaDoor.Q
namespace Go.Proofs.YtiioklboaookiaaDoor.Q
open Go.RowKit Go.Proofs.YtiioklboaookiaaDoorW.PrintWords Go.Proofs.YtiioklboaookiaaDoorW.PrintLast Go.Proofs.YtiioklboaookiaaDoor.Hand Go.Proofs.YtiioklboaookiaaDoorW.PrintMore
attribute [local go_sem] max2_int min2_int max_two min_two max_three min_three max_four min_four
set_option linter.unusedVariables false
set_option linter.unusedSimpArgs false
theorem neArc (a b c d : Int) (w : World) : (binOp .neq 137 (.agg #[.int .i64 a, .int .i64 b]) (.agg #[.int .i64 c, .int .i64 d])).run Tryd.prog w = .ok (.bool (!decide (a = c ∧ b = d))) w := by
 have h := eqArc a b c d w
 rw [run_eql_struct] at h
 rw [run_neq_struct]
 generalize (Op.equalIn 10000 137 (.agg #[.int .i64 a, .int .i64 b]) (.agg #[.int .i64 c, .int .i64 d])).run Tryd.prog w = r at h ⊢
 cases r with
 | ok x w1 =>
  simp only [Result.andThen_ok] at h ⊢
  injection h with h1 h2
  injection h1 with h1
  rw [h1, h2]
 | _ => simp [Result.andThen] at h
theorem gdArcN (x y : Operand) (a b : Array Value) (w : World) : (eqGuard .neq 137 x y (.agg a) (.agg b)).run Tryd.prog w = .ok () w := run_eqGuard_agg w _ _ _ _ _ _ (by kernel_rfl)
theorem infoPair : (Tryd.prog.info? 138).map (fun i => (i.zero, i.size, i.bytes)) = some (some (.agg #[.int .i64 0, .int .i64 0]), 2, 16) := by kernel_rfl
set_option maxHeartbeats 4000000 in
set_option maxRecDepth 100000 in
theorem refu_walk (pb b : Nat) (A0 : Option Addr) (n c0 nb : Nat) (A1 : Option Addr) (c1 : Nat) (work : Int) (ps : List S72) (mb xb B N cnt : Nat) (M : Nat → Nat → Int) (adj : Nat → List Nat) (vs : Nat → Value) (w : World)
  (hp : ProbAt pb b A0 n c0 (.pointer (some ⟨nb, 0, none⟩)) A1 ps.length c1 work w) (hc : Kd.C k72 w A1 ps.length ps) (hn : NetAt nb mb xb B N cnt M adj vs w) (hn32 : n ≤ 32) (hm : ps.length ≤ 64) (hN : N = 2 + n + ps.length)
  (hz : NoneAt w) (hadj : ∀ i, i < N → ∀ u, u ∈ adj i → u < N) (hlen : ∀ i, (adj i).length < 1000000) :
  Calls Tryd.prog 38 #[.pointer (some ⟨pb, 0, none⟩)] w fun e w' => ∃ A2 n2 c2 A3 n3 c3, e = .returned (.tuple #[.slice A2 n2 c2, .slice A3 n3 c3]) ∧ Below w.heap.size w w' := by
 have HP := hid hp
 have HC := Aside0.mk hc
 have HN := hid hn
 have HZ := hid hz
 have HADJ := hid hadj
 have HLEN := hid hlen
 have q2 : w.cell? ⟨pb, 2, none⟩ = some (.pointer (some ⟨nb, 0, none⟩)) := hp.cells.2.2.1
 obtain ⟨B0, hB0⟩ : ∃ B0, B0 = w.heap.size := ⟨_, rfl⟩
 have HWK := hid (ways_walk nb mb xb B N cnt M adj vs w 0 hn (by omega) (by omega) hz hadj hlen)
 rw [← hB0] at HWK ⊢
 have HBE := hid hB0
 have HNE := hid hN
 clear hp hc hn hz hadj hlen hB0 hN
 go_enter Tryd.func38, Tryd.ntmps38
 go_wp2_with (fail)
 refine HWK.out.mono ?_
 rintro e w1 ⟨rfl, hW, hB⟩
 obtain ⟨way, hway⟩ : ∃ way, way = waysF M adj N 0 := ⟨_, rfl⟩
 rw [← hway] at hW
 have HWY := Aside0.mk hW
 have HB1 := Aside0.mk hB
 have HP1 := hid (HP.out.below (by rw [← HBE.out]; exact hB))
 have HC1 := Aside0.mk (Kd.C_below HC.out (by rw [← HBE.out]; exact hB))
 have HZ1 := hid (HZ.out.below (by rw [← HBE.out]; exact hB))
 clear hway hW hB q2 HWK HP HC HN HZ
 have q1 : w1.cell? ⟨pb, 1, none⟩ = some (.slice A0 n c0) := HP1.out.cells.2.1
 go_wp2_with (fail)
 clear q1
 obtain ⟨B1, hB1⟩ : ∃ B1, B1 = w1.heap.size := ⟨_, rfl⟩
 have HB1E := hid hB1
 have HL0 : Aside0 (Kd.R (Kd.int .i64) 3 w1 B1 (fun _ => True) (.slice none 0 0) []) := ⟨Kd.R_nil _ _ _ _ _⟩
 have HBW0 : Aside0 (Below B1 w1 w1) := ⟨Below.refl _ _⟩
 clear hB1
 go_loopg [5, 21] n (fun kq v5 v21 w' => ∃ (k : Nat) (L : List Int), v21 = .int .i64 k ∧ k + kq = n ∧ L.length ≤ k ∧ Aside0 (Kd.R (Kd.int .i64) 3 w' B1 (fun _ => True) v5 L) ∧ Aside0 (Below B1 w1 w'))
 case atStart => exact ⟨0, [], rfl, by omega, by simp, HL0, HBW0⟩
 case round =>
  clear HL0 HBW0
  obtain ⟨k, L, rfl, hk, hL, HL, HBW⟩ := hrel
  obtain ⟨Ao, co, eO⟩ := Kd.R_slice HL.out
  obtain ⟨L1, hL1⟩ : ∃ L1, L1 = L.length := ⟨_, rfl⟩
  rw [← hL1] at eO hL
  subst eO
  have HL1 := hid hL1
  clear hL1
  by_cases hlt : k < n
  ·have d2 : decide ((k : Int) < (n : Int)) = true := decide_eq_true (by omega)
   have d2n : decide (k < n) = true := decide_eq_true hlt
   have HLT := hid hlt
   have hbw := HBW.out
   rw [HB1E.out] at hbw
   have HWY2 := Aside0.mk (HWY.out.below hbw)
   have HZ2 := hid (HZ1.out.below hbw)
   have k0 := (HWY2.out.1 (1 + k) (by have := HNE.out; omega)).1
   have k1 := (HWY2.out.1 (1 + k) (by have := HNE.out; omega)).2
   have z0 : wr.cell? ⟨0, 0, none⟩ = some (.int .i64 (-1)) := HZ2.out.1
   have z1 : wr.cell? ⟨0, 1, none⟩ = some (.int .i64 (-1)) := HZ2.out.2
   have i0 : (0 : Int) ≤ 1 + (k : Int) := by omega
   have i1 : 1 + (k : Int) < (N : Int) := by have := HNE.out; omega
   have htn : (1 + (k : Int)).toNat = 1 + k := by omega
   clear hbw hlt
   obtain ⟨x, y, hxy⟩ : ∃ x y, way (1 + k) = (x, y) := ⟨_, _, rfl⟩
   rw [hxy] at k0 k1
   have hgd := fun p q w => gdArcN p q #[.int .i64 x, .int .i64 y] #[.int .i64 (-1), .int .i64 (-1)] w
   by_cases hw : x = -1 ∧ y = -1
   ·have heq : ∀ w, (binOp .neq 137 (.agg #[.int .i64 x, .int .i64 y]) (.agg #[.int .i64 (-1), .int .i64 (-1)])).run Tryd.prog w = .ok (.bool false) w := fun w => by rw [neArc, decide_eq_true hw]; rfl
    clear hxy hw
    go_wp2_with (fail)
    go_quiet (first | (go_at_call 49; refine Calls.quiet_of_same (job_walkI pb k _ (by omega))))
    go_wp2_with (fail)
    go_roundg (n - (k + 1))
    case rel => exact ⟨k + 1, L, by go_num, by have := HLT.out; omega, by rw [← HL1.out]; omega, ⟨Kd.R_drewN HL.out nq⟩, ⟨pw_below_drewN HBW.out nq⟩⟩
    case measure => have := HLT.out; omega
   ·have heq : ∀ w, (binOp .neq 137 (.agg #[.int .i64 x, .int .i64 y]) (.agg #[.int .i64 (-1), .int .i64 (-1)])).run Tryd.prog w = .ok (.bool true) w := fun w => by rw [neArc, decide_eq_false hw]; rfl
    clear hxy hw
    go_wp2_with (fail)
    go_quiet (first | (go_at_call 49; refine Calls.quiet_of_same (job_walkI pb k _ (by omega))))
    obtain ⟨W4, hW4⟩ : ∃ W4, W4 = wr.drewN nq := ⟨_, rfl⟩
    have HL4 := Aside0.mk (show Kd.R (Kd.int .i64) 3 W4 B1 (fun _ => True) (.slice Ao L1 co) L by rw [hW4]; exact Kd.R_drewN HL.out nq)
    have HB4 := Aside0.mk (show Below B1 w1 W4 by rw [hW4]; exact pw_below_drewN HBW.out nq)
    rw [← hW4]
    clear hW4 HL HBW k0 k1 z0 z1 heq hgd HWY2 HZ2
    go_wp2_with ((with_reducible refine gate_builtin (b := .append) (xs := #[.tmp 32, .tmp 34]) rfl ?_); at_builtin; refine Kd.R_append (Kd.int .i64) (w0 := w1) B1 rfl (.tmp 32) (.tmp 34) 51 3 (.int .i64 0) 8 rfl Tryd.underlying51 infoIntN rfl (by decide) (by omega) (.slice Ao L1 co) L (k : Int) [.int .i64 (k : Int)] (fun _ => True) (fun _ => False) rfl (by first | (go_simp; done) | (go_simp; rfl)) rfl (fun _ hk => hk.elim) (fun _ _ => trivial) HL4.out HB4.out (by rw [HB1E.out]; exact HB4.out.size) ?aL ?_; (case aL => rw [← HL1.out]; omega); intro v6 w6 ho hb hg hat; have HO6 := Aside0.mk ho; have HB6 := Aside0.mk hb; clear ho hb hg hat)
    go_roundg (n - (k + 1))
    case rel => exact ⟨k + 1, L ++ [(k : Int)], by go_num, by have := HLT.out; omega, by rw [List.length_append, ← HL1.out]; simp; omega, HO6, HB6⟩
    case measure => have := HLT.out; omega
  ·have d2 : decide ((k : Int) < (n : Int)) = false := decide_eq_false (by omega)
   have hbw := HBW.out
   rw [HB1E.out] at hbw
   have HP2 := hid (HP1.out.below hbw)
   have HC2 := Aside0.mk (Kd.C_below HC1.out hbw)
   have HZ2 := hid (HZ1.out.below hbw)
   have HWY2 := Aside0.mk (HWY.out.below hbw)
   have HB2 := Aside0.mk (HB1.out.trans (HBW.out.mono (by rw [HBE.out, HB1E.out]; exact HB1.out.size)))
   have q3 : wr.cell? ⟨pb, 3, none⟩ = some (.slice A1 ps.length c1) := HP2.out.cells.2.2.2.1
   clear hbw hL HL HBW HP1 HC1 HZ1 HWY
   go_wp2_with (fail)
   clear q3
   obtain ⟨B2, hB2⟩ : ∃ B2, B2 = wr.heap.size := ⟨_, rfl⟩
   have HB2E := hid hB2
   obtain ⟨w2, hw2⟩ : ∃ w2, w2 = wr := ⟨_, rfl⟩
   subst hw2
   have HM0 : Aside0 (Kd.R k72 138 w2 B2 (fun _ => True) (.slice none 0 0) []) := ⟨Kd.R_nil _ _ _ _ _⟩
   have HBX0 : Aside0 (Below B2 w2 w2) := ⟨Below.refl _ _⟩
   clear hB2
   go_loopg [6, 42] ps.length (fun kq v6 v42 w' => ∃ (i : Nat) (L : List S72), v42 = .int .i64 i ∧ i + kq = ps.length ∧ L.length ≤ i ∧ Aside0 (Kd.R k72 138 w' B2 (fun _ => True) v6 L) ∧ Aside0 (Below B2 w2 w'))
   case atStart => exact ⟨0, [], rfl, by omega, by simp, HM0, HBX0⟩
   case round =>
    clear HM0 HBX0
    obtain ⟨i, L2, rfl, hi, hL2, HL, HBW⟩ := hrel
    obtain ⟨Ap, cp, eP⟩ := Kd.R_slice HL.out
    obtain ⟨L3, hL3⟩ : ∃ L3, L3 = L2.length := ⟨_, rfl⟩
    rw [← hL3] at eP hL2
    subst eP
    have HL3 := hid hL3
    clear hL3
    by_cases hlt : i < ps.length
    ·have d3 : decide ((i : Int) < (ps.length : Int)) = true := decide_eq_true (by omega)
     have d3n : decide (i < ps.length) = true := decide_eq_true hlt
     have HLT := hid hlt
     have hbw := HBW.out
     rw [HB2E.out] at hbw
     have HWY3 := Aside0.mk (HWY2.out.below hbw)
     have HZ3 := hid (HZ2.out.below hbw)
     have HP3 := hid (HP2.out.below hbw)
     obtain ⟨ad1, e1, hs0, hs1⟩ := at_T72 (Kd.C_below HC2.out hbw) (i : Int) (by omega) (by omega)
     rw [Int.toNat_natCast] at hs0 hs1
     cases e1
     have hlt2' : (i : Int) < (ps.length : Int) := by omega
     have j0 : (0 : Int) ≤ (i : Int) := by omega
     obtain ⟨sp, hsp⟩ : ∃ sp, sp = rd_T72 ps (i : Int) := ⟨_, rfl⟩
     rw [← hsp] at hs0 hs1
     clear hsp
     have i0 : (0 : Int) ≤ 1 + (n : Int) + (i : Int) := by omega
     have i1 : 1 + (n : Int) + (i : Int) < (N : Int) := by have := HNE.out; omega
     have htn : (1 + (n : Int) + (i : Int)).toNat = 1 + n + i := by omega
     clear hbw hlt
     go_wp2_with (fail)
     obtain ⟨sb, hsb⟩ : ∃ sb, sb = wr.heap.size := ⟨_, rfl⟩
     obtain ⟨W10, hW10⟩ : ∃ W10, W10 = wr.alloc (.cells #[.int .i64 sp.f0, .int .i64 sp.f1] 125) := ⟨_, rfl⟩
     have hb10 : Below wr.heap.size wr W10 := by rw [hW10]; exact below_alloc (Below.refl _ _) _
     have HSB := hid (show W10.heap[sb]? = some (.cells #[.int .i64 sp.f0, .int .i64 sp.f1] 125 (0, 0)) by rw [hW10, hsb]; exact blk_new _ _)
     rw [← hW10, ← hsb]
     have HL10 := Aside0.mk (Kd.R_below HL.out hb10)
     have HB10 := Aside0.mk (HBW.out.trans (hb10.mono (by rw [HB2E.out]; exact HBW.out.size)))
     have k0 := ((HWY3.out.below hb10).1 (1 + n + i) (by have := HNE.out; have := HLT.out; omega)).1
     have k1 := ((HWY3.out.below hb10).1 (1 + n + i) (by have := HNE.out; have := HLT.out; omega)).2
     have z0 : W10.cell? ⟨0, 0, none⟩ = some (.int .i64 (-1)) := (HZ3.out.below hb10).1
     have z1 : W10.cell? ⟨0, 1, none⟩ = some (.int .i64 (-1)) := (HZ3.out.below hb10).2
     have HP10 := hid (HP3.out.below hb10)
     clear hW10 hsb hs0 hs1 hb10 HP3 HZ3 HWY3 HL HBW
     obtain ⟨x, y, hxy⟩ : ∃ x y, way (1 + n + i) = (x, y) := ⟨_, _, rfl⟩
     rw [hxy] at k0 k1
     have hgd := fun p q w => gdArcN p q #[.int .i64 x, .int .i64 y] #[.int .i64 (-1), .int .i64 (-1)] w
     by_cases hw : x = -1 ∧ y = -1
     ·have heq : ∀ w, (binOp .neq 137 (.agg #[.int .i64 x, .int .i64 y]) (.agg #[.int .i64 (-1), .int .i64 (-1)])).run Tryd.prog w = .ok (.bool false) w := fun w => by rw [neArc, decide_eq_true hw]; rfl
      clear hxy hw
      go_wp2_with (fail)
      go_quiet (first | (go_at_call 50; refine Calls.quiet_of_same (part_walkI pb b _ n c0 _ _ ps.length c1 _ i _ (HP10.out.below (pw_below_drewN (Below.refl _ _) _)) (by omega) (by have := HLT.out; omega))))
      go_wp2_with (fail)
      go_roundg (ps.length - (i + 1))
      case rel => exact ⟨i + 1, L2, by go_num, by have := HLT.out; omega, by rw [← HL3.out]; omega, ⟨Kd.R_drewN HL10.out nq⟩, ⟨pw_below_drewN HB10.out nq⟩⟩
      case measure => have := HLT.out; omega
     ·have heq : ∀ w, (binOp .neq 137 (.agg #[.int .i64 x, .int .i64 y]) (.agg #[.int .i64 (-1), .int .i64 (-1)])).run Tryd.prog w = .ok (.bool true) w := fun w => by rw [neArc, decide_eq_false hw]; rfl
      clear hxy hw
      go_wp2_with (fail)
      go_quiet (first | (go_at_call 50; refine Calls.quiet_of_same (part_walkI pb b _ n c0 _ _ ps.length c1 _ i _ (HP10.out.below (pw_below_drewN (Below.refl _ _) _)) (by omega) (by have := HLT.out; omega))))
      obtain ⟨W4, hW4⟩ : ∃ W4, W4 = W10.drewN nq := ⟨_, rfl⟩
      have HL4 := Aside0.mk (show Kd.R k72 138 W4 B2 (fun _ => True) (.slice Ap L3 cp) L2 by rw [hW4]; exact Kd.R_drewN HL10.out nq)
      have HB4 := Aside0.mk (show Below B2 w2 W4 by rw [hW4]; exact pw_below_drewN HB10.out nq)
      have c0_ : W4.cell? ⟨sb, 0, none⟩ = some (.int .i64 sp.f0) := by rw [hW4]; show W10.cell? _ = _; simp [World.cell?, HSB.out]
      have c1_ : W4.cell? ⟨sb, 1, none⟩ = some (.int .i64 sp.f1) := by rw [hW4]; show W10.cell? _ = _; simp [World.cell?, HSB.out]
      rw [← hW4]
      clear hW4 HL10 HB10 k0 k1 z0 z1 heq hgd
      go_wp2_with ((with_reducible refine gate_builtin (b := .append) (xs := #[.tmp 55, .tmp 61]) rfl ?_); at_builtin; refine Kd.R_append k72 (w0 := w2) B2 rfl (.tmp 55) (.tmp 61) 52 138 (.agg #[.int .i64 0, .int .i64 0]) 16 rfl Tryd.underlying52 infoPair rfl (by decide) (by omega) (.slice Ap L3 cp) L2 ⟨sp.f0, sp.f1⟩ [.int .i64 sp.f0, .int .i64 sp.f1] (fun _ => True) (fun _ => False) rfl (by first | (go_simp; done) | (go_simp; rfl)) ?aP (fun _ hk => hk.elim) (fun _ _ => trivial) HL4.out HB4.out (by rw [HB2E.out]; exact HB4.out.size) ?aL ?_; (case aP => exact k72_mkM _ _ _ ⟨sp.f0, sp.f1⟩); (case aL => rw [← HL3.out]; have := HLT.out; omega); intro v6 w6 ho hb hg hat; have HO6 := Aside0.mk ho; have HB6 := Aside0.mk hb; clear ho hb hg hat)
      go_roundg (ps.length - (i + 1))
      case rel => exact ⟨i + 1, L2 ++ [⟨sp.f0, sp.f1⟩], by go_num, by have := HLT.out; omega, by rw [List.length_append, ← HL3.out]; simp; omega, HO6, HB6⟩
      case measure => have := HLT.out; omega
    ·have d3 : decide ((i : Int) < (ps.length : Int)) = false := decide_eq_false (by omega)
     go_wp2_with (fail)
     go_ret2
     exact ⟨_, _, _, _, _, _, rfl, HB2.out.trans (HBW.out.mono (by rw [HBE.out, HB2E.out]; exact HB2.out.size))⟩
end Go.Proofs.YtiioklboaookiaaDoor.Q
namespace Go.Proofs.YtiioklboaookiaaDoor.Q
open Go.RowKit Go.Proofs.YtiioklboaookiaaDoorW.PrintWords Go.Proofs.YtiioklboaookiaaDoorW.PrintLast Go.Proofs.YtiioklboaookiaaDoor.Hand Go.Proofs.YtiioklboaookiaaDoorW.PrintMore
attribute [local go_sem] max2_int min2_int max_two min_two max_three min_three max_four min_four
set_option linter.unusedVariables false
set_option linter.unusedSimpArgs false
theorem results_c {P : Program} {fn : Func} {p : Tmp} {ty : TypeId} (h : fn.results = #[.cell p ty]) (tmps : Array Value) (w : World) (g : Nat) (t : TypeId) (cs : Array Value) (fr : Nat × Nat) (d : TypeDesc)
  (hp : tmps.getD p undef = .pointer (some ⟨g, 0, none⟩)) (hg : w.heap[g]? = some (.cells cs t fr))
  (hu : P.underlying ty = some d) (hd : (match d with | .struct _ | .array _ _ => true | _ => false) = true) (hi : (P.info? ty).map (·.size) = some cs.size) :
  (results fn tmps).run P w = .ok (.agg cs) w := by
 have hp' : tmps[p]?.getD undef = .pointer (some ⟨g, 0, none⟩) := by simpa using hp
 simp [results, h, hp', asAddr, run_loadVar_row w g t ty cs fr d hg hu hd hi]
structure Slots (b : Nat) (l : List S34) (base : Nat) (v : Value) (w : World) : Prop where
 ex : ∃ M L, Cut b l M (workF l) ∧ L.Perm (schedF M l.length (spansF l) (spansF l).length) ∧ Kd.R kSlt 132 w base (fun _ => True) v L
set_option maxHeartbeats 8000000 in
set_option maxRecDepth 100000 in
theorem bplan_walk (b : Nat) (A0 : Option Addr) (c0 : Nat) (l : List S34) (w : World) (hb : b ≤ 8) (hl : l.length ≤ 32) (hr : Kd.C k34 w A0 l.length l) (hv : ∀ x, x ∈ l → jobOk x = true) (hz : NoneAt w)
  (hS : ∀ M, Cut b l M (workF l) → (schedF M l.length (spansF l) (spansF l).length).length ≤ 20) :
  Calls Tryd.prog 21 #[.agg #[.int .i64 b, .slice A0 l.length c0]] w fun e w' => ∃ p AS nS cS A2 n2 c2 A3 n3 c3 sum M, e = .returned (.agg #[.bool p, .slice AS nS cS, .slice A2 n2 c2, .slice A3 n3 c3]) ∧ Cut b l M sum ∧ (p = true ↔ sum = workF l) ∧ (p = true → Slots b l w.heap.size (.slice AS nS cS) w') ∧ Below w.heap.size w w' := by
 have HR := Aside0.mk hr
 have HV := hid hv
 have HZ := hid hz
 have HSL := hid hS
 have hzlt : 0 < w.heap.size := World.block_lt_of_cell? w _ hz.1
 clear hr hv hz hS
 go_enter Tryd.func21, Tryd.ntmps21
 go_wp2_with (fail)
 obtain ⟨ab, hab⟩ : ∃ ab, ab = w.heap.size + 1 := ⟨_, rfl⟩
 obtain ⟨W2, hW2⟩ : ∃ W2, W2 = (w.alloc (.cells #[.int .i64 b, .slice A0 l.length c0] 60)).alloc (.cells #[.bool false, .slice none 0 0, .slice none 0 0, .slice none 0 0] 54) := ⟨_, rfl⟩
 have hb2 : Below w.heap.size w W2 := by rw [hW2]; exact below_alloc (below_alloc (Below.refl _ _) _) _
 have HA2 := hid (show W2.heap[ab]? = some (.cells #[.bool false, .slice none 0 0, .slice none 0 0, .slice none 0 0] 54 (0, 0)) by rw [hW2, hab]; exact heap_new _ _ _ (by simp))
 rw [← hW2, ← hab]
 have HAB := hid hab
 have hab0 : w.heap.size ≤ ab := by omega
 have HB2 := Aside0.mk hb2
 clear hW2 hab
 refine (newp_walk b A0 c0 l W2 hb hl (Kd.C_below HR.out hb2) HV.out).mono ?_
 rintro e w3 ⟨pb, nb, mb, xb, B, cnt, A1, c1, vs, rfl, hp3, ⟨base, hpa⟩, hBs, hcnt, hn3, hpB, hb3⟩
 have HA3 := hid (show w3.drew.heap[ab]? = some (.cells #[.bool false, .slice none 0 0, .slice none 0 0, .slice none 0 0] 54 (0, 0)) from (hb3.block ab (lt_of_some HA2.out)).trans HA2.out)
 have habB : ab < B := Nat.lt_of_lt_of_le (lt_of_some HA2.out) hBs
 have hB1 : 1 ≤ B := by omega
 have HB3 := Aside0.mk (HB2.out.trans (hb3.mono hb2.size)).drew
 have HZ3 := hid (HZ.out.below HB3.out)
 have HP3 := hid (show ProbAt pb b A0 l.length c0 (.pointer (some ⟨nb, 0, none⟩)) A1 (spansF l).length c1 (workF l) w3.drew from hp3)
 have HN3 := hid (hn3.below (below_drew1 (Below.refl _ _)))
 have HPA3 := Aside0.mk hpa
 have HS := hid (show w3.drew.cell? ⟨pb, 2, none⟩ = some (.pointer (some ⟨nb, 0, none⟩)) ∧ w3.drew.cell? ⟨pb, 4, none⟩ = some (.int .i64 (workF l)) from ⟨HP3.out.cells.2.2.1, HP3.out.cells.2.2.2.2.1⟩)
 have hm := spans_len l hl
 have hwB : w.heap.size ≤ B := by omega
 clear hp3 hpa hBs hn3 hb3 hb2 HA2 HB2
 go_wp2_with (fail)
 refine start_ (n := 12) (S := fun w' => w'.cell? ⟨pb, 2, none⟩ = some (.pointer (some ⟨nb, 0, none⟩)) ∧ w'.cell? ⟨pb, 4, none⟩ = some (.int .i64 (workF l))) (ds := []) #[false, false, false, false, false, false, false, false, false, false, false, false] (by kernel_rfl) rfl rfl HS.out (fun hHeld => ?_)
 refine pure_ (i := 0) (N := some 8) (v := ?_) (a' := ?_) #[true, false, false, false, false, false, false, false, false, false, false, false] rfl rfl (by kernel_rfl) (fun _ _ _ h => h) (Or.inl ⟨by rfl, ?_⟩) ?_ ?_
 rotate_left
 ·intro w'
  go_simp
  with_reducible rfl
 rotate_left
 ·simp only [Act.put, List.setIfInBounds_toArray, List.set_cons_zero, List.set_cons_succ, i64_w, i32_w]
  rfl
 refine pure_ (i := 1) (N := some 9) (v := ?_) (a' := ?_) #[true, true, false, false, false, false, false, false, false, false, false, false] rfl rfl (by kernel_rfl) (fun _ _ _ h => h) (Or.inl ⟨by rfl, ?_⟩) ?_ ?_
 rotate_left
 ·intro w'
  go_simp
  with_reducible rfl
 rotate_left
 ·simp only [Act.put, List.setIfInBounds_toArray, List.set_cons_zero, List.set_cons_succ, i64_w, i32_w]
  rfl
 refine pure_ (i := 2) (N := some 10) (v := ?_) (a' := ?_) #[true, true, true, false, false, false, false, false, false, false, false, false] rfl rfl (by kernel_rfl) (fun _ _ _ h => h) (Or.inl ⟨by rfl, ?_⟩) ?_ ?_
 rotate_left
 ·intro w'
  go_simp
  with_reducible rfl
 rotate_left
 ·simp only [Act.put, List.setIfInBounds_toArray, List.set_cons_zero, List.set_cons_succ, i64_w, i32_w]
  rfl
 refine take_ (i := 3) (N := some 11) (v := ?_) (a' := ?_) #[true, true, true, true, false, false, false, false, false, false, false, false] rfl rfl (by kernel_rfl) (fun _ _ _ h => h) (Or.inl ⟨by rfl, ?_⟩) hHeld ?_ ?_
 rotate_left
 ·rintro w' ⟨s0, s1⟩
  go_simp
  with_reducible rfl
 rotate_left
 ·simp only [Act.put, List.setIfInBounds_toArray, List.set_cons_zero, List.set_cons_succ, i64_w, i32_w]
  rfl
 refine pure_ (i := 4) (N := some 12) (v := ?_) (a' := ?_) #[true, true, true, true, true, false, false, false, false, false, false, false] rfl rfl (by kernel_rfl) (fun _ _ _ h => h) (Or.inl ⟨by rfl, ?_⟩) ?_ ?_
 rotate_left
 ·intro w'
  go_simp
  with_reducible rfl
 rotate_left
 ·simp only [Act.put, List.setIfInBounds_toArray, List.set_cons_zero, List.set_cons_succ, i64_w, i32_w]
  rfl
 refine pure_ (i := 7) (N := some 15) (v := ?_) (a' := ?_) #[true, true, true, true, true, false, false, true, false, false, false, false] rfl rfl (by kernel_rfl) (fun _ _ _ h => h) (Or.inl ⟨by rfl, ?_⟩) ?_ ?_
 rotate_left
 ·intro w'
  go_simp
  with_reducible rfl
 rotate_left
 ·simp only [Act.put, List.setIfInBounds_toArray, List.set_cons_zero, List.set_cons_succ, i64_w, i32_w]
  rfl
 refine pure_ (i := 8) (N := some 16) (v := ?_) (a' := ?_) #[true, true, true, true, true, false, false, true, true, false, false, false] rfl rfl (by kernel_rfl) (fun _ _ _ h => h) (Or.inl ⟨by rfl, ?_⟩) ?_ ?_
 rotate_left
 ·intro w'
  go_simp
  with_reducible rfl
 rotate_left
 ·simp only [Act.put, List.setIfInBounds_toArray, List.set_cons_zero, List.set_cons_succ, i64_w, i32_w]
  rfl
 refine pure_ (i := 9) (N := some 17) (v := ?_) (a' := ?_) #[true, true, true, true, true, false, false, true, true, true, false, false] rfl rfl (by kernel_rfl) (fun _ _ _ h => h) (Or.inl ⟨by rfl, ?_⟩) ?_ ?_
 rotate_left
 ·intro w'
  go_simp
  with_reducible rfl
 rotate_left
 ·simp only [Act.put, List.setIfInBounds_toArray, List.set_cons_zero, List.set_cons_succ, i64_w, i32_w]
  rfl
 refine take_ (i := 10) (N := some 18) (v := ?_) (a' := ?_) #[true, true, true, true, true, false, false, true, true, true, true, false] rfl rfl (by kernel_rfl) (fun _ _ _ h => h) (Or.inl ⟨by rfl, ?_⟩) hHeld ?_ ?_
 rotate_left
 ·rintro w' ⟨s0, s1⟩
  go_simp
  with_reducible rfl
 rotate_left
 ·simp only [Act.put, List.setIfInBounds_toArray, List.set_cons_zero, List.set_cons_succ, i64_w, i32_w]
  rfl
 refine one_ (i := 5) (N := some 13) #[true, true, true, true, true, true, false, true, true, true, true, false] rfl rfl (by kernel_rfl) (by decide) (fun K hK => ?_)
 refine goes_ Tryd.func32 (by kernel_rfl) rfl #[.pointer (some ⟨pb, 0, none⟩)] (by rfl) rfl rfl (by (try simp only [List.map_toArray, List.map_cons, List.map_nil]); first | done | rfl) ?_
 refine (last_walk pb b _ l.length c0 _ _ (spansF l).length c1 _ _ HP3.out (by omega) (by omega)).mono ?_
 rintro e w4 ⟨rfl, q4, rfl⟩
 have hb4 := pw_below_drewN (Below.refl w3.drew.heap.size w3.drew) q4
 have g0_ := pw_cell_below hb4 HS.out.1
 have g1_ := pw_cell_below hb4 HS.out.2
 have HS4 := hid (And.intro g0_ g1_)
 have HN4 := hid (HN3.out.below hb4)
 clear hb4 g0_ g1_
 refine ⟨_, rfl, ?_⟩
 refine hK.out _ _ HS4.out (fun hHeld => ?_)
 clear hK K
 refine norm_ (a' := ?_) ?_ ?_
 rotate_left
 ·show Act.put _ (some 13) _ = _
  simp only [Act.put, List.setIfInBounds_toArray, List.set_cons_zero, List.set_cons_succ, i64_w, i32_w]
  rfl
 refine one_ (i := 6) (N := some 14) #[true, true, true, true, true, true, true, true, true, true, true, false] rfl rfl (by kernel_rfl) (by decide) (fun K hK => ?_)
 refine goes_ Tryd.func31 (by kernel_rfl) rfl #[.pointer (some ⟨nb, 0, none⟩), .int .i64 0, .int .i64 ((1 + l.length + (spansF l).length : Nat) : Int)] (by rfl) rfl rfl (by (try simp only [List.map_toArray, List.map_cons, List.map_nil]); first | done | rfl) ?_
 refine (fill_prob b l hb hl HV.out nb mb xb B cnt vs _ HN4.out hcnt (HZ3.out.keep (pw_below_drewN (Below.refl B w3.drew) q4) hB1) hB1).mono ?_
 rintro e w5 ⟨sum, M', n', rfl, hAN, hn5, hk5⟩
 have HAN := hid hAN
 have HN5 := hid hn5
 have HK5 := hid ((NetKeep.of (B := B) (pw_below_drewN (Below.refl w3.drew.heap.size w3.drew) q4) HN3.out.base).trans hk5)
 have HP5 := hid (show ProbAt pb b A0 l.length c0 (.pointer (some ⟨nb, 0, none⟩)) A1 (spansF l).length c1 (workF l) w5 from HK5.out.blk _ _ _ _ HP3.out (by decide) (by decide))
 have g0_ := HP5.out.cells.2.2.1
 have g1_ := HP5.out.cells.2.2.2.2.1
 clear hAN hn5 hk5
 refine ⟨_, rfl, ?_⟩
 refine hK.out _ _ ⟨g0_, g1_⟩ (fun hHeld => ?_)
 clear hK K
 refine norm_ (a' := ?_) ?_ ?_
 rotate_left
 ·show Act.put _ (some 14) _ = _
  simp only [Act.put, List.setIfInBounds_toArray, List.set_cons_zero, List.set_cons_succ, i64_w, i32_w]
  rfl
 refine pure_ (i := 11) (N := some 19) (v := ?_) (a' := ?_) #[true, true, true, true, true, true, true, true, true, true, true, true] rfl rfl (by kernel_rfl) (fun _ _ _ h => h) (Or.inl ⟨by rfl, ?_⟩) ?_ ?_
 rotate_left
 ·intro w'
  go_simp
  with_reducible rfl
 rotate_left
 ·simp only [Act.put, List.setIfInBounds_toArray, List.set_cons_zero, List.set_cons_succ, i64_w, i32_w]
  rfl
 refine done_ (by kernel_rfl) ?_
 clear g0_ g1_ HS4 HN4
 have HA5 := hid (show w5.heap[ab]? = some (.cells #[.bool false, .slice none 0 0, .slice none 0 0, .slice none 0 0] 54 (0, 0)) from (HK5.out.bel.block ab habB).trans HA3.out)
 have HB5 := Aside0.mk (HB3.out.trans (HK5.out.bel.mono hwB))
 have HC5 := Aside0.mk (Kd.R_reads' (Kd.R_move HPA3.out (fun k hk => HK5.out.bel.block k hk))).2.2
 have HZ5 := hid (HZ3.out.keep HK5.out.bel hB1)
 have hok := probG_ok b l (spansF l)
 have hadj : ∀ i, i < 2 + l.length + (spansF l).length → ∀ u, u ∈ (probG b l (spansF l)).2 i → u < 2 + l.length + (spansF l).length := fun i _ u hu => hok.low i u hu
 have hlen : ∀ i, ((probG b l (spansF l)).2 i).length < 1000000 := fun i => by
  have h1 := hok.len i
  have h2 : l.length * (2 + 2 * (spansF l).length) ≤ 32 * 130 := Nat.mul_le_mul hl (by omega)
  omega
 have HADJ := hid hadj
 have HLEN := hid hlen
 clear hok hadj hlen HS HA3 HZ3 HB3 HP3 HN3 HPA3
 by_cases hs : sum = workF l
 ·have t1 : (sum == workF l) = true := beq_iff_eq.2 hs
  have hcut := HAN.out
  rw [hs] at hcut
  have HCUT := hid hcut
  have HSE := hid hs
  clear hs hcut
  go_wp2_with (fail)
  refine (sched_walk pb b A0 l.length c0 nb A1 c1 (workF l) (spansF l) mb xb B (2 + l.length + (spansF l).length) n' M' (probG b l (spansF l)).2 vs w5 HP5.out HC5.out HN5.out hl hm (spansF_ok l HV.out) (fun i hi => (HCUT.out.works hb HV.out i hi).1) (fun i hi => by have := (HCUT.out.works hb HV.out i hi).2; omega) (HSL.out M' HCUT.out)).mono ?_
  rintro e w6 ⟨v6, L6, rfl, hp6, hr6, hb6⟩
  have HA6 := hid (show w6.heap[ab]? = some (.cells #[.bool false, .slice none 0 0, .slice none 0 0, .slice none 0 0] 54 (0, 0)) from (hb6.block ab (lt_of_some HA5.out)).trans HA5.out)
  have HB6 := Aside0.mk (HB5.out.trans (hb6.mono HB5.out.size))
  have HP6 := hid hp6
  have HR6 := Aside0.mk (Kd.R_lower hr6 HB5.out.size)
  clear hp6 hr6 hb6
  obtain ⟨A6, c6, e6⟩ := Kd.R_slice HR6.out
  obtain ⟨L7, hL7⟩ : ∃ L7, L7 = L6.length := ⟨_, rfl⟩
  rw [← hL7] at e6
  subst e6
  clear hL7
  have f0 : ∀ j, w6.frozen? ⟨ab, j, none⟩ = false := fun j => by simp [World.frozen?, HA6.out]
  have z0 : w6.cell? ⟨ab, 0, none⟩ = some (.bool false) := by simp [World.cell?, HA6.out]
  have z1 : w6.cell? ⟨ab, 1, none⟩ = some (.slice none 0 0) := by simp [World.cell?, HA6.out]
  have z2 : w6.cell? ⟨ab, 2, none⟩ = some (.slice none 0 0) := by simp [World.cell?, HA6.out]
  have z3 : w6.cell? ⟨ab, 3, none⟩ = some (.slice none 0 0) := by simp [World.cell?, HA6.out]
  go_wp2_with (fail)
  have hA6 : w6.heap[ab]? = some (.cells #[.bool false, .slice none 0 0, .slice none 0 0, .slice none 0 0] 54 (0, 0)) := HA6.out
  have hA60 : ((w6).setCell ⟨ab, 0, none⟩ (.bool true)).heap[ab]? = some (.cells #[.bool true, .slice none 0 0, .slice none 0 0, .slice none 0 0] 54 (0, 0)) := blk_put hA6 0 (.bool true) rfl
  have hA61 : (((w6).setCell ⟨ab, 0, none⟩ (.bool true)).setCell ⟨ab, 1, none⟩ (.slice A6 L7 c6)).heap[ab]? = some (.cells #[.bool true, .slice A6 L7 c6, .slice none 0 0, .slice none 0 0] 54 (0, 0)) := blk_put hA60 1 (.slice A6 L7 c6) rfl
  have hA62 : ((((w6).setCell ⟨ab, 0, none⟩ (.bool true)).setCell ⟨ab, 1, none⟩ (.slice A6 L7 c6)).setCell ⟨ab, 2, none⟩ (.slice none 0 0)).heap[ab]? = some (.cells #[.bool true, .slice A6 L7 c6, .slice none 0 0, .slice none 0 0] 54 (0, 0)) := blk_put hA61 2 (.slice none 0 0) rfl
  have hA63 : (((((w6).setCell ⟨ab, 0, none⟩ (.bool true)).setCell ⟨ab, 1, none⟩ (.slice A6 L7 c6)).setCell ⟨ab, 2, none⟩ (.slice none 0 0)).setCell ⟨ab, 3, none⟩ (.slice none 0 0)).heap[ab]? = some (.cells #[.bool true, .slice A6 L7 c6, .slice none 0 0, .slice none 0 0] 54 (0, 0)) := blk_put hA62 3 (.slice none 0 0) rfl
  refine bodyPost_ret (results_c rfl _ _ ab 54 _ (0, 0) _ rfl hA63 Tryd.underlying54 rfl (by kernel_rfl)) rfl ?_
  refine ⟨true, A6, L7, c6, none, 0, 0, none, 0, 0, sum, M', rfl, HAN.out, ⟨fun _ => HSE.out, fun _ => rfl⟩, fun _ => ⟨M', L6, HCUT.out, HP6.out, ?_⟩, ?_⟩
  ·exact Kd.R_set (Kd.R_set (Kd.R_set (Kd.R_set HR6.out hA6 (by decide) 0 (.bool true)) hA60 (by decide) 1 (.slice A6 L7 c6)) hA61 (by decide) 2 (.slice none 0 0)) hA62 (by decide) 3 (.slice none 0 0)
  ·exact Below.setCell (p := ⟨ab, 3, none⟩) (Below.setCell (p := ⟨ab, 2, none⟩) (Below.setCell (p := ⟨ab, 1, none⟩) (Below.setCell (p := ⟨ab, 0, none⟩) HB6.out hab0 _) hab0 _) hab0 _) hab0 _
 ·have t1 : (sum == workF l) = false := by rw [beq_eq_false_iff_ne]; exact hs
  have HSE := hid hs
  clear hs
  go_wp2_with (fail)
  refine (refu_walk pb b A0 l.length c0 nb A1 c1 (workF l) (spansF l) mb xb B (2 + l.length + (spansF l).length) n' M' (probG b l (spansF l)).2 vs w5 HP5.out HC5.out HN5.out hl hm rfl HZ5.out HADJ.out HLEN.out).mono ?_
  rintro e w6 ⟨A2, n2, c2, A3, n3, c3, rfl, hb6⟩
  have HA6 := hid (show w6.heap[ab]? = some (.cells #[.bool false, .slice none 0 0, .slice none 0 0, .slice none 0 0] 54 (0, 0)) from (hb6.block ab (lt_of_some HA5.out)).trans HA5.out)
  have HB6 := Aside0.mk (HB5.out.trans (hb6.mono HB5.out.size))
  clear hb6
  have f0 : ∀ j, w6.frozen? ⟨ab, j, none⟩ = false := fun j => by simp [World.frozen?, HA6.out]
  have z0 : w6.cell? ⟨ab, 0, none⟩ = some (.bool false) := by simp [World.cell?, HA6.out]
  have z1 : w6.cell? ⟨ab, 1, none⟩ = some (.slice none 0 0) := by simp [World.cell?, HA6.out]
  have z2 : w6.cell? ⟨ab, 2, none⟩ = some (.slice none 0 0) := by simp [World.cell?, HA6.out]
  have z3 : w6.cell? ⟨ab, 3, none⟩ = some (.slice none 0 0) := by simp [World.cell?, HA6.out]
  go_wp2_with (fail)
  have hA6 : w6.heap[ab]? = some (.cells #[.bool false, .slice none 0 0, .slice none 0 0, .slice none 0 0] 54 (0, 0)) := HA6.out
  have hA60 : ((w6).setCell ⟨ab, 0, none⟩ (.bool false)).heap[ab]? = some (.cells #[.bool false, .slice none 0 0, .slice none 0 0, .slice none 0 0] 54 (0, 0)) := blk_put hA6 0 (.bool false) rfl
  have hA61 : (((w6).setCell ⟨ab, 0, none⟩ (.bool false)).setCell ⟨ab, 1, none⟩ (.slice none 0 0)).heap[ab]? = some (.cells #[.bool false, .slice none 0 0, .slice none 0 0, .slice none 0 0] 54 (0, 0)) := blk_put hA60 1 (.slice none 0 0) rfl
  have hA62 : ((((w6).setCell ⟨ab, 0, none⟩ (.bool false)).setCell ⟨ab, 1, none⟩ (.slice none 0 0)).setCell ⟨ab, 2, none⟩ (.slice A2 n2 c2)).heap[ab]? = some (.cells #[.bool false, .slice none 0 0, .slice A2 n2 c2, .slice none 0 0] 54 (0, 0)) := blk_put hA61 2 (.slice A2 n2 c2) rfl
  have hA63 : (((((w6).setCell ⟨ab, 0, none⟩ (.bool false)).setCell ⟨ab, 1, none⟩ (.slice none 0 0)).setCell ⟨ab, 2, none⟩ (.slice A2 n2 c2)).setCell ⟨ab, 3, none⟩ (.slice A3 n3 c3)).heap[ab]? = some (.cells #[.bool false, .slice none 0 0, .slice A2 n2 c2, .slice A3 n3 c3] 54 (0, 0)) := blk_put hA62 3 (.slice A3 n3 c3) rfl
  refine bodyPost_ret (results_c rfl _ _ ab 54 _ (0, 0) _ rfl hA63 Tryd.underlying54 rfl (by kernel_rfl)) rfl ?_
  refine ⟨false, none, 0, 0, A2, n2, c2, A3, n3, c3, sum, M', rfl, HAN.out, ⟨fun h => absurd h (by decide), fun h => absurd h HSE.out⟩, fun h => absurd h (by decide), ?_⟩
  exact Below.setCell (p := ⟨ab, 3, none⟩) (Below.setCell (p := ⟨ab, 2, none⟩) (Below.setCell (p := ⟨ab, 1, none⟩) (Below.setCell (p := ⟨ab, 0, none⟩) HB6.out hab0 _) hab0 _) hab0 _) hab0 _
end Go.Proofs.YtiioklboaookiaaDoor.Q
namespace Go.Proofs.YtiioklboaookiaaDoor.Q
open Go.RowKit Go.Proofs.YtiioklboaookiaaDoorW.PrintWords Go.Proofs.YtiioklboaookiaaDoorW.PrintLast Go.Proofs.YtiioklboaookiaaDoor.Hand Go.Proofs.YtiioklboaookiaaDoorW.PrintMore
attribute [local go_sem] max2_int min2_int max_two min_two max_three min_three max_four min_four
set_option linter.unusedVariables false
set_option linter.unusedSimpArgs false
set_option maxHeartbeats 8000000 in
set_option maxRecDepth 100000 in
theorem Plan_walk (b : Nat) (A0 : Option Addr) (c0 : Nat) (l : List S34) (w : World) (hb0 : 1 ≤ b) (hb : b ≤ 8) (hl : l.length ≤ 32) (hr : Kd.C k34 w A0 l.length l) (hv : ∀ x, x ∈ l → jobOk x = true) (hz : NoneAt w)
  (hS : ∀ M, Cut b l M (workF l) → (schedF M l.length (spansF l) (spansF l).length).length ≤ 20) :
  Calls Tryd.prog 12 #[.int .i64 b, .slice A0 l.length c0] w fun e w' => ∃ p AS nS cS A2 n2 c2 A3 n3 c3 sum M, e = .returned (.tuple #[.agg #[.bool p, .slice AS nS cS, .slice A2 n2 c2, .slice A3 n3 c3], .int .i64 0]) ∧ Cut b l M sum ∧ (p = true ↔ sum = workF l) ∧ (p = true → Slots b l w.heap.size (.slice AS nS cS) w') ∧ Below w.heap.size w w' := by
 have HR := Aside0.mk hr
 have HV := hid hv
 have HZ := hid hz
 have HSL := hid hS
 have hzlt : 0 < w.heap.size := World.block_lt_of_cell? w _ hz.1
 clear hr hv hz hS
 go_enter Tryd.func12, Tryd.ntmps12
 go_wp2_with (fail)
 obtain ⟨ab, hab⟩ : ∃ ab, ab = w.heap.size := ⟨_, rfl⟩
 obtain ⟨W2, hW2⟩ : ∃ W2, W2 = w.alloc (.cells #[.bool false, .slice none 0 0, .slice none 0 0, .slice none 0 0] 54) := ⟨_, rfl⟩
 have hb2 : Below w.heap.size w W2 := by rw [hW2]; exact below_alloc (Below.refl _ _) _
 have HA2 := hid (show W2.heap[ab]? = some (.cells #[.bool false, .slice none 0 0, .slice none 0 0, .slice none 0 0] 54 (0, 0)) by rw [hW2, hab]; exact blk_new _ _)
 rw [← hW2, ← hab]
 have HAB := hid hab
 have HB2 := Aside0.mk (show Below ab w W2 by rw [hab]; exact hb2)
 have HR2 := Aside0.mk (Kd.C_below HR.out hb2)
 have HZ2 := hid (HZ.out.below hb2)
 clear hW2 hab hb2
 refine (btask_walk b A0 c0 l W2 hb0 hb hl HR2.out HV.out).mono ?_
 rintro e w3 ⟨rfl, hb3⟩
 have HA3 := hid (show w3.heap[ab]? = some (.cells #[.bool false, .slice none 0 0, .slice none 0 0, .slice none 0 0] 54 (0, 0)) from (hb3.block ab (lt_of_some HA2.out)).trans HA2.out)
 have HB3 := Aside0.mk (HB2.out.trans (hb3.mono (Nat.le_of_lt (lt_of_some HA2.out))))
 have HR3 := Aside0.mk (Kd.C_below HR2.out hb3)
 have HZ3 := hid (HZ2.out.below hb3)
 clear hb3 HA2 HB2 HR2 HZ2
 go_wp2_with (fail)
 obtain ⟨W4, hW4⟩ : ∃ W4, W4 = w3.alloc (.cells #[.int .i64 b, .slice A0 l.length c0] 60) := ⟨_, rfl⟩
 have hb4 : Below w3.heap.size w3 W4 := by rw [hW4]; exact below_alloc (Below.refl _ _) _
 rw [← hW4]
 clear hW4
 have HA4 := hid (show W4.heap[ab]? = some (.cells #[.bool false, .slice none 0 0, .slice none 0 0, .slice none 0 0] 54 (0, 0)) from (hb4.block ab (lt_of_some HA3.out)).trans HA3.out)
 have HB4 := Aside0.mk (HB3.out.trans (hb4.mono (Nat.le_of_lt (lt_of_some HA3.out))))
 have HR4 := Aside0.mk (Kd.C_below HR3.out hb4)
 have HZ4 := hid (HZ3.out.below hb4)
 clear hb4 HA3 HB3 HR3 HZ3
 refine (bplan_walk b A0 c0 l W4 hb hl HR4.out HV.out HZ4.out HSL.out).mono ?_
 rintro e w6 ⟨p, AS, nS, cS, A2, n2, c2, A3, n3, c3, sum, M, rfl, hC, hp, hs, hb6⟩
 have HA6 := hid (show w6.heap[ab]? = some (.cells #[.bool false, .slice none 0 0, .slice none 0 0, .slice none 0 0] 54 (0, 0)) from (hb6.block ab (lt_of_some HA4.out)).trans HA4.out)
 have HB6 := Aside0.mk (HB4.out.trans (hb6.mono (Nat.le_of_lt (lt_of_some HA4.out))))
 have HLE := hid (show ab ≤ W4.heap.size from Nat.le_of_lt (lt_of_some HA4.out))
 have HC := hid hC
 have HPP := hid hp
 have HS := hid hs
 clear hb6 HA4 HB4 HR4 HZ4 hC hp hs
 have f0 : ∀ j, w6.frozen? ⟨ab, j, none⟩ = false := fun j => by simp [World.frozen?, HA6.out]
 have z0 : w6.cell? ⟨ab, 0, none⟩ = some (.bool false) := by simp [World.cell?, HA6.out]
 have z1 : w6.cell? ⟨ab, 1, none⟩ = some (.slice none 0 0) := by simp [World.cell?, HA6.out]
 have z2 : w6.cell? ⟨ab, 2, none⟩ = some (.slice none 0 0) := by simp [World.cell?, HA6.out]
 have z3 : w6.cell? ⟨ab, 3, none⟩ = some (.slice none 0 0) := by simp [World.cell?, HA6.out]
 go_wp2_with (fail)
 have hA6 : w6.heap[ab]? = some (.cells #[.bool false, .slice none 0 0, .slice none 0 0, .slice none 0 0] 54 (0, 0)) := HA6.out
 have hA60 : ((w6).setCell ⟨ab, 0, none⟩ (.bool p)).heap[ab]? = some (.cells #[.bool p, .slice none 0 0, .slice none 0 0, .slice none 0 0] 54 (0, 0)) := blk_put hA6 0 (.bool p) rfl
 have hA61 : (((w6).setCell ⟨ab, 0, none⟩ (.bool p)).setCell ⟨ab, 1, none⟩ (.slice AS nS cS)).heap[ab]? = some (.cells #[.bool p, .slice AS nS cS, .slice none 0 0, .slice none 0 0] 54 (0, 0)) := blk_put hA60 1 (.slice AS nS cS) rfl
 have hA62 : ((((w6).setCell ⟨ab, 0, none⟩ (.bool p)).setCell ⟨ab, 1, none⟩ (.slice AS nS cS)).setCell ⟨ab, 2, none⟩ (.slice A2 n2 c2)).heap[ab]? = some (.cells #[.bool p, .slice AS nS cS, .slice A2 n2 c2, .slice none 0 0] 54 (0, 0)) := blk_put hA61 2 (.slice A2 n2 c2) rfl
 have hA63 : (((((w6).setCell ⟨ab, 0, none⟩ (.bool p)).setCell ⟨ab, 1, none⟩ (.slice AS nS cS)).setCell ⟨ab, 2, none⟩ (.slice A2 n2 c2)).setCell ⟨ab, 3, none⟩ (.slice A3 n3 c3)).heap[ab]? = some (.cells #[.bool p, .slice AS nS cS, .slice A2 n2 c2, .slice A3 n3 c3] 54 (0, 0)) := blk_put hA62 3 (.slice A3 n3 c3) rfl
 refine bodyPost_ret (results_ct rfl _ _ ab 54 _ (0, 0) _ rfl hA63 Tryd.underlying54 rfl (by kernel_rfl)) rfl ?_
 rw [← HAB.out]
 refine ⟨p, AS, nS, cS, A2, n2, c2, A3, n3, c3, sum, M, rfl, HC.out, HPP.out, fun hp => ?_, ?_⟩
 ·obtain ⟨M6, L6, g1, g2, g3⟩ := (HS.out hp).ex
  exact ⟨M6, L6, g1, g2, Kd.R_set (Kd.R_set (Kd.R_set (Kd.R_set (Kd.R_lower g3 HLE.out) hA6 (by decide) 0 (.bool p)) hA60 (by decide) 1 (.slice AS nS cS)) hA61 (by decide) 2 (.slice A2 n2 c2)) hA62 (by decide) 3 (.slice A3 n3 c3)⟩
 ·exact Below.setCell (p := ⟨ab, 3, none⟩) (Below.setCell (p := ⟨ab, 2, none⟩) (Below.setCell (p := ⟨ab, 1, none⟩) (Below.setCell (p := ⟨ab, 0, none⟩) HB6.out (Nat.le_refl _) _) (Nat.le_refl _) _) (Nat.le_refl _) _) (Nat.le_refl _) _
end Go.Proofs.YtiioklboaookiaaDoor.Q
namespace Go.Proofs.YtiioklboaookiaaDoor.Q
open Go.RowKit Go.Proofs.YtiioklboaookiaaDoorW.PrintWords Go.Proofs.YtiioklboaookiaaDoorW.PrintLast Go.Proofs.YtiioklboaookiaaDoor.Hand Go.Proofs.YtiioklboaookiaaDoorW.PrintMore
attribute [local go_sem] max2_int min2_int max_two min_two max_three min_three max_four min_four
set_option linter.unusedVariables false
set_option linter.unusedSimpArgs false
theorem flat_drop {α : Type} (enc : α → List Value) (s : Nat) (hs : ∀ x, (enc x).length = s) : ∀ (xs : List α) (j : Nat) (p : α), xs[j]? = some p → ((xs.flatMap enc).drop (j * s)).take s = enc p
 | [], j, p, h => by simp at h
 | a :: xs, 0, p, h => by
  have e : a = p := by simpa using h
  subst e
  rw [Nat.zero_mul, List.drop_zero, List.flatMap_cons, List.take_left' (hs a)]
 | a :: xs, j + 1, p, h => by
  have h' : xs[j]? = some p := by simpa using h
  have e : (j + 1) * s = (enc a).length + j * s := by rw [hs, Nat.succ_mul, Nat.add_comm]
  rw [List.flatMap_cons, e, ← List.drop_drop, List.drop_left']
  ·exact flat_drop enc s hs xs j p h'
  ·rfl
theorem flat_len {α : Type} (enc : α → List Value) (s : Nat) (hs : ∀ x, (enc x).length = s) : ∀ (xs : List α), (xs.flatMap enc).length = xs.length * s
 | [] => by simp
 | a :: xs => by rw [List.flatMap_cons, List.length_append, flat_len enc s hs xs, hs, List.length_cons, Nat.succ_mul, Nat.add_comm]
theorem R_fresh {α : Type} (d : Kd α) (enc : α → List Value) (hs : ∀ x, (enc x).length = d.sz) (hM : ∀ w base ok x, d.M w base ok x (enc x)) (e : Nat) (W : World) (base : Nat) (hb : base ≤ W.heap.size) (xs : List α) (hl : xs.length ≤ 1000) :
  Kd.R d e (W.alloc (.cells (xs.flatMap enc).toArray e)) base (fun _ => True) (.slice (some ⟨W.heap.size, 0, none⟩) xs.length xs.length) xs := by
 have hlen := flat_len enc d.sz hs xs
 refine ⟨fun _ _ => trivial, xs.flatMap enc, ⟨hlen, .inr ⟨W.heap.size, xs.length, _, rfl, hb, blk_new _ _, Nat.le_refl _, by unfold maxLen; omega, by simpa using hlen, ?_⟩⟩, hlen, fun j p hp => ?_⟩
 ·rw [← hlen]; exact List.take_of_length_le (Nat.le_refl _)
 ·rw [flat_drop enc d.sz hs xs j p hp]; exact hM _ _ _ p
def encPt (x : S89) : List Value := [.int .i64 x.f0, .int .i64 x.f1]
def encStep (x : S72) : List Value := [.int .i64 x.f0, .int .i64 x.f1]
def encJob (x : S34) : List Value := [.int .i64 x.f0, .int .i64 x.f1, .int .i64 x.f2]
def ptOk (p : S89) : Bool := decide (-4096 ≤ p.f0 ∧ p.f0 ≤ 4096 ∧ -4096 ≤ p.f1 ∧ p.f1 ≤ 4096)
theorem invalid_no (p : S89) (h : ptOk p = true) : plane_invalid.f p.f0 p.f1 = some false := by
 obtain ⟨h1, h2, h3, h4⟩ := of_decide_eq_true h
 unfold plane_invalid.f plane_valid.f plane_within.f
 rw [if_pos (show p.f0 ≥ -4096 by omega), if_pos (show p.f1 ≥ -4096 by omega)]
 simp [h2, h4]
theorem pt_mem {l : List S89} (k : Nat) (h : k < l.length) : rd_T89 l (k : Int) ∈ l := by
 unfold rd_T89; rw [Int.toNat_natCast, List.getD_eq_getElem?_getD, List.getElem?_eq_getElem h]; exact List.getElem_mem h
set_option maxHeartbeats 4000000 in
set_option maxRecDepth 100000 in
theorem pindex_no (A0 : Option Addr) (c0 : Nat) (l : List S89) (w : World) (hl : l.length ≤ 512) (hr : Kd.C k89 w A0 l.length l) (hv : ∀ x, x ∈ l → ptOk x = true) :
  Calls Tryd.prog 62 #[.slice A0 l.length c0, .func (.func 43) #[] #[]] w fun e w' => e = .returned (.int .i64 (-1)) ∧ Below w.heap.size w w' := by
 have HR := Aside0.mk hr
 have HV := hid hv
 clear hr hv
 go_enter Tryd.func62, Tryd.ntmps62
 go_wp2_with (fail)
 go_loopg [8] l.length (fun kq v8 w' => ∃ (k : Nat), v8 = .int .i64 k ∧ k + kq = l.length ∧ Aside0 (Below w.heap.size w w'))
 case atStart => exact ⟨0, rfl, by omega, ⟨Below.refl _ _⟩⟩
 case round =>
  obtain ⟨k, rfl, hk, HB⟩ := hrel
  by_cases hlt : k < l.length
  ·have d2 : decide ((k : Int) < (l.length : Int)) = true := decide_eq_true (by omega)
   obtain ⟨ad, e0, hx0, hx1⟩ := at_T89 HR.out (k : Int) (by omega) (by omega)
   rw [Int.toNat_natCast] at hx0 hx1
   replace hx0 := (HB.out.cell (World.block_lt_of_cell? w _ hx0)).trans hx0
   replace hx1 := (HB.out.cell (World.block_lt_of_cell? w _ hx1)).trans hx1
   cases e0
   have hlt' : (k : Int) < (l.length : Int) := by omega
   have k0 : (0 : Int) ≤ (k : Int) := by omega
   have HJ := hid (HV.out _ (pt_mem k hlt))
   have HLT := hid hlt
   obtain ⟨bl, hbl⟩ : ∃ bl, bl = rd_T89 l (k : Int) := ⟨_, rfl⟩
   rw [← hbl] at hx0 hx1 HJ
   clear hbl hlt
   go_wp2_with (fail)
   refine (plane_invalid.calls bl.f0 bl.f1 false _ (invalid_no bl HJ.out)).mono ?_
   rintro e w1 ⟨rfl, hb⟩
   have HB2 : Aside0 (Below w.heap.size w w1) := ⟨HB.out.trans (hb.mono HB.out.size)⟩
   clear hb HB hx0 hx1
   go_wp2_with (fail)
   go_roundg (l.length - (k + 1))
   case rel => exact ⟨k + 1, by go_num, by have := HLT.out; omega, HB2⟩
   case measure => have := HLT.out; omega
  ·have d2 : decide ((k : Int) < (l.length : Int)) = false := decide_eq_false (by omega)
   go_wp2_with (fail)
   go_ret
   exact ⟨rfl, HB.out⟩
set_option maxHeartbeats 4000000 in
set_option maxRecDepth 100000 in
theorem pcontains_no (A0 : Option Addr) (c0 : Nat) (l : List S89) (w : World) (hl : l.length ≤ 512) (hr : Kd.C k89 w A0 l.length l) (hv : ∀ x, x ∈ l → ptOk x = true) :
  Calls Tryd.prog 42 #[.slice A0 l.length c0, .func (.func 43) #[] #[]] w fun e w' => e = .returned (.bool false) ∧ Below w.heap.size w w' := by
 have HR := Aside0.mk hr
 have HV := hid hv
 clear hr hv
 go_enter Tryd.func42, Tryd.ntmps42
 go_wp2_with (fail)
 refine (pindex_no A0 c0 l _ hl HR.out HV.out).mono ?_
 rintro e w1 ⟨rfl, hb⟩
 have HB := Aside0.mk hb
 clear hb
 go_wp2_with (fail)
 go_ret
 exact ⟨rfl, HB.out⟩
set_option maxHeartbeats 4000000 in
set_option maxRecDepth 100000 in
theorem Area_walk (k : Nat) (A0 : Option Addr) (c0 : Nat) (l : List S89) (r : Int) (w : World) (hl : l.length ≤ 512) (hc0 : l.length ≤ c0) (hr : Kd.C k89 w A0 l.length l) (hv : ∀ x, x ∈ l → ptOk x = true) (h : plane_area.f k l = some r) :
  Calls Tryd.prog 25 #[.slice A0 l.length c0] w fun e w' => e = .returned (.tuple #[.int .i64 r, .int .i64 0]) ∧ Below w.heap.size w w' := by
 have HR := Aside0.mk hr
 have HV := hid hv
 have HF := hid h
 have d1 : decide ((512 : Int) < (l.length : Int)) = false := decide_eq_false (by omega)
 clear hr hv h
 go_enter Tryd.func25, Tryd.ntmps25
 go_wp2_with (fail)
 refine (pcontains_no A0 c0 l _ hl HR.out HV.out).mono ?_
 rintro e w1 ⟨rfl, hb⟩
 have HB := Aside0.mk hb
 have HR1 := Aside0.mk (Kd.C_below HR.out hb)
 clear hb
 go_wp2_with (fail)
 refine (plane_area.calls k A0 c0 l r _ HR1.out hc0 HF.out).mono ?_
 rintro e w2 ⟨rfl, hb⟩
 have HB2 := Aside0.mk (HB.out.trans (hb.mono HB.out.size))
 clear hb
 go_wp2_with (fail)
 go_ret2
 exact ⟨rfl, HB2.out⟩
end Go.Proofs.YtiioklboaookiaaDoor.Q
namespace Go.Proofs.YtiioklboaookiaaDoor.Q
open Go.RowKit Go.Proofs.YtiioklboaookiaaDoorW.PrintWords Go.Proofs.YtiioklboaookiaaDoorW.PrintLast Go.Proofs.YtiioklboaookiaaDoor.Hand Go.Proofs.YtiioklboaookiaaDoorW.PrintMore
attribute [local go_sem] max2_int min2_int max_two min_two max_three min_three max_four min_four
set_option linter.unusedVariables false
set_option linter.unusedSimpArgs false
theorem wrapJob_spec (k fr fi : Int) (hft : fr < fi) (f : Nat) : ∀ (w b a : Int), fr ≤ a → a < fi → 0 ≤ w → w.toNat ≤ f →
  (wrapJob k fr fi f w b a).2.1 * (fi - fr) + ((wrapJob k fr fi f w b a).2.2 - fr) = b * (fi - fr) + (a - fr) + w ∧ fr ≤ (wrapJob k fr fi f w b a).2.2 ∧ (wrapJob k fr fi f w b a).2.2 < fi ∧ b ≤ (wrapJob k fr fi f w b a).2.1 ∧
   ((wrapJob k fr fi f w b a).1.length : Int) ≤ (wrapJob k fr fi f w b a).2.1 - b + (if 0 < w then 1 else 0) := by
 induction f with
 | zero =>
  intro w b a h1 h2 h3 h4
  have hw : w = 0 := by omega
  subst hw
  unfold wrapJob
  refine ⟨by dsimp only; omega, h1, h2, Int.le_refl _, ?_⟩
  simp
 | succ f ih =>
  intro w b a h1 h2 h3 h4
  unfold wrapJob
  by_cases hw : 0 < w
  ·rw [if_pos hw, if_pos hw]
   by_cases hc : fi - a < w
   ·rw [if_pos hc, show a + (fi - a) = fi by omega, if_pos rfl, if_pos rfl]
    obtain ⟨g1, g2, g3, g4, g5⟩ := ih (w - (fi - a)) (b + 1) fr (Int.le_refl _) hft (by omega) (by omega)
    rw [if_pos (show 0 < w - (fi - a) by omega)] at g5
    dsimp only
    generalize wrapJob k fr fi f (w - (fi - a)) (b + 1) fr = r at g1 g2 g3 g4 g5 ⊢
    have e : (b + 1) * (fi - fr) = b * (fi - fr) + (fi - fr) := by rw [Int.add_mul, Int.one_mul]
    rw [e] at g1
    refine ⟨by omega, g2, g3, by omega, ?_⟩
    rw [List.length_cons]; omega
   ·rw [if_neg hc]
    by_cases he : a + w = fi
    ·rw [if_pos he, if_pos he, show w - w = 0 by omega]
     obtain ⟨g1, g2, g3, g4, g5⟩ := ih 0 (b + 1) fr (Int.le_refl _) hft (by omega) (by omega)
     rw [if_neg (by omega)] at g5
     dsimp only
     generalize wrapJob k fr fi f 0 (b + 1) fr = r at g1 g2 g3 g4 g5 ⊢
     have e : (b + 1) * (fi - fr) = b * (fi - fr) + (fi - fr) := by rw [Int.add_mul, Int.one_mul]
     rw [e] at g1
     refine ⟨by omega, g2, g3, by omega, ?_⟩
     rw [List.length_cons]; omega
    ·rw [if_neg he, if_neg he, show w - w = 0 by omega]
     obtain ⟨g1, g2, g3, g4, g5⟩ := ih 0 b (a + w) (by omega) (by omega) (by omega) (by omega)
     rw [if_neg (by omega)] at g5
     dsimp only
     generalize wrapJob k fr fi f 0 b (a + w) = r at g1 g2 g3 g4 g5 ⊢
     refine ⟨by omega, g2, g3, by omega, ?_⟩
     rw [List.length_cons]; omega
  ·rw [if_neg hw, if_neg hw]
   refine ⟨?_, h1, h2, Int.le_refl _, ?_⟩
   ·show b * (fi - fr) + (a - fr) = _; omega
   ·simp
theorem wrapAll_len (fr fi : Int) (hft : fr < fi) : ∀ (ws : List Int) (k b a : Int), fr ≤ a → a < fi → (∀ x, x ∈ ws → 0 ≤ x) →
  ∃ bf : Int, bf * (fi - fr) ≤ b * (fi - fr) + (a - fr) + ws.sum ∧ b ≤ bf ∧ ((wrapAll fr fi ws k b a).length : Int) ≤ ws.length + (bf - b)
 | [], k, b, a, h1, h2, _ => ⟨b, by simp; omega, Int.le_refl _, by unfold wrapAll; simp⟩
 | w :: ws, k, b, a, h1, h2, h3 => by
  obtain ⟨g1, g2, g3, g4, g5⟩ := wrapJob_spec k fr fi hft w.toNat w b a h1 h2 (h3 w List.mem_cons_self) (Nat.le_refl _)
  have g6 : ((wrapW k fr fi w b a).1.length : Int) ≤ (wrapW k fr fi w b a).2.1 - b + 1 := by
   have : (if 0 < w then (1 : Int) else 0) ≤ 1 := by split <;> omega
   unfold wrapW; omega
  obtain ⟨bf, e1, e2, e3⟩ := wrapAll_len fr fi hft ws (k + 1) (wrapW k fr fi w b a).2.1 (wrapW k fr fi w b a).2.2 g2 g3 (fun x hx => h3 x (List.mem_cons_of_mem _ hx))
  refine ⟨bf, ?_, ?_, ?_⟩
  ·rw [List.sum_cons]
   have g1' : (wrapW k fr fi w b a).2.1 * (fi - fr) + ((wrapW k fr fi w b a).2.2 - fr) = b * (fi - fr) + (a - fr) + w := g1
   omega
  ·have g4' : b ≤ (wrapW k fr fi w b a).2.1 := g4
   omega
  ·unfold wrapAll
   rw [List.length_append, List.length_cons]
   omega
theorem Cut.short {b : Nat} {d : Int} {l : List S34} {M : Nat → Nat → Int} {sum : Int} (h : Cut b l M sum) (hd : 0 < d) (hl : ∀ j, j ∈ l → j.f0 = 0 ∧ j.f1 = d) : (schedF M l.length (spansF l) (spansF l).length).length ≤ l.length + b := by
 by_cases hne : l = []
 ·subst hne
  have e : spansF ([] : List S34) = [] := by
   unfold spansF timesF
   rw [show timesR ([] : List S34) = [] from rfl, List.mergeSort_nil]; rfl
  rw [e]; show ([] : List Slt).length ≤ _; simp
 ·have hs := spans_window l d hne hl hd
  have hf := h.flow
  rw [hs] at hf ⊢
  show ([] ++ wrapF M l.length [⟨0, d⟩] 0).length ≤ l.length + b
  rw [List.nil_append]
  unfold wrapF
  have e : rd_T72 [(⟨0, d⟩ : S72)] ((0 : Nat) : Int) = ⟨0, d⟩ := rfl
  rw [e]
  dsimp only
  have hws : ∀ x, x ∈ worksF M l.length 0 → 0 ≤ x := fun x hx => by
   unfold worksF at hx
   obtain ⟨k, hk, rfl⟩ := List.mem_map.1 hx
   exact hf.ge k 0 (List.mem_range.1 hk) (by simp)
  obtain ⟨bf, e1, e2, e3⟩ := wrapAll_len 0 d hd (worksF M l.length 0) 0 0 0 (Int.le_refl _) hd hws
  have hsum : (worksF M l.length 0).sum ≤ b * d := by
   unfold worksF
   rw [sumN_range]
   obtain ⟨p1, p2⟩ := hf.part 0 (by simp)
   have hlen : lenF [(⟨0, d⟩ : S72)] 0 = d := by show d - 0 = d; omega
   rw [hlen] at p2
   omega
  have hbf : bf ≤ b := by
   have h1 : bf * d ≤ b * d := by
    rw [show d - 0 = d by omega] at e1
    omega
   exact Int.le_of_mul_le_mul_right h1 hd
  rw [worksF_length] at e3
  omega
end Go.Proofs.YtiioklboaookiaaDoor.Q
namespace Go.Proofs.YtiioklboaookiaaDoor.Q
open Go.RowKit Go.Proofs.YtiioklboaookiaaDoorW.PrintWords Go.Proofs.YtiioklboaookiaaDoorW.PrintLast Go.Proofs.YtiioklboaookiaaDoor.Hand Go.Proofs.YtiioklboaookiaaDoorW.PrintMore
attribute [local go_sem] max2_int min2_int max_two min_two max_three min_three max_four min_four
set_option linter.unusedVariables false
set_option linter.unusedSimpArgs false
theorem area4 : plane_area.f 10 [(⟨0, 0⟩ : S89), ⟨3, 0⟩, ⟨3, 2⟩, ⟨0, 2⟩] = some 12 := by kernel_rfl
theorem rd_waste : readF [] [(⟨0, 0⟩ : S72)] 2 3 2 0 0 0 = some (1, 0, 0) := by rfl
set_option maxHeartbeats 4000000 in
set_option maxRecDepth 100000 in
theorem two_walk (w : World) : Calls Tryd.prog 14 #[] w fun e w' => e = .returned (.bool true) ∧ Below w.heap.size w w' := by
 have HP := Aside0.mk (show Kd.R k89 89 (w.alloc (.cells #[.int .i64 0, .int .i64 0, .int .i64 3, .int .i64 0, .int .i64 3, .int .i64 2, .int .i64 0, .int .i64 2] 89)) w.heap.size (fun _ => True) (.slice (some ⟨w.heap.size, 0, none⟩) 4 4) [⟨0, 0⟩, ⟨3, 0⟩, ⟨3, 2⟩, ⟨0, 2⟩] from
  R_fresh k89 encPt (fun _ => rfl) (fun w base ok x => k89_mkM w base ok x) 89 w w.heap.size (Nat.le_refl _) [⟨0, 0⟩, ⟨3, 0⟩, ⟨3, 2⟩, ⟨0, 2⟩] (by decide))
 have HA := hid (Area_walk 10 (some ⟨w.heap.size, 0, none⟩) 4 [⟨0, 0⟩, ⟨3, 0⟩, ⟨3, 2⟩, ⟨0, 2⟩] 12 _ (by decide) (by decide) (Kd.R_reads' HP.out).2.2 (by decide) area4)
 have HB0 := Aside0.mk (below_alloc (Below.refl w.heap.size w) (.cells #[.int .i64 0, .int .i64 0, .int .i64 3, .int .i64 0, .int .i64 3, .int .i64 2, .int .i64 0, .int .i64 2] 89))
 clear HP
 go_enter Tryd.func14, Tryd.ntmps14
 go_wp2_with (fail)
 refine HA.out.mono ?_
 rintro e w1 ⟨rfl, hb⟩
 have HB1 := Aside0.mk (HB0.out.trans (hb.mono HB0.out.size))
 clear hb HA HB0
 have HS := Aside0.mk (show Kd.R k72 72 (w1.alloc (.cells #[.int .i64 0, .int .i64 0] 72)) w1.heap.size (fun _ => True) (.slice (some ⟨w1.heap.size, 0, none⟩) 1 1) [⟨0, 0⟩] from
  R_fresh k72 encStep (fun _ => rfl) (fun w base ok x => k72_mkM w base ok x) 72 w1 w1.heap.size (Nat.le_refl _) [⟨0, 0⟩] (by decide))
 have HW := hid (Worth_walk 2 3 2 none 0 [] (some ⟨w1.heap.size, 0, none⟩) 1 [⟨0, 0⟩] 0 0 _ (by decide) (by decide) (by decide) (by decide) (by decide) (by decide) (Kd.R_reads' HS.out).2.2 (Kd.C_nil _ _) (by decide) rd_waste)
 have HB2 := Aside0.mk (below_alloc HB1.out (.cells #[.int .i64 0, .int .i64 0] 72))
 clear HS HB1
 go_wp2_with (fail)
 refine HW.out.mono ?_
 rintro e w2 ⟨rfl, hb⟩
 have HB3 := Aside0.mk (HB2.out.trans (hb.mono HB2.out.size))
 clear hb HW HB2
 go_wp2_with (fail)
 go_ret
 exact ⟨rfl, HB3.out⟩
theorem enc_a : label_Encode.f 10 ⟨#[97]⟩ 0 = some (⟨#[97]⟩, 0) := by kernel_rfl
set_option maxHeartbeats 4000000 in
set_option maxRecDepth 100000 in
theorem four_walk (w : World) (hz : NoneAt w) : Calls Tryd.prog 7 #[] w fun e w' => e = .returned (.bool true) ∧ Below w.heap.size w w' := by
 have HJ := Aside0.mk (show Kd.R k34 36 (w.alloc (.cells #[.int .i64 0, .int .i64 2, .int .i64 2] 36)) w.heap.size (fun _ => True) (.slice (some ⟨w.heap.size, 0, none⟩) 1 1) [⟨0, 2, 2⟩] from
  R_fresh k34 encJob (fun _ => rfl) (fun w base ok x => k34_mkM w base ok x) 36 w w.heap.size (Nat.le_refl _) [⟨0, 2, 2⟩] (by decide))
 have hwin : ∀ j, j ∈ [(⟨0, 2, 2⟩ : S34)] → j.f0 = 0 ∧ j.f1 = 2 ∧ 0 ≤ j.f2 := fun j hj => by rw [List.mem_singleton.1 hj]; decide
 have HP := hid (Plan_walk 1 (some ⟨w.heap.size, 0, none⟩) 1 [⟨0, 2, 2⟩] (w.alloc (.cells #[.int .i64 0, .int .i64 2, .int .i64 2] 36)) (by decide) (by decide) (by decide) (Kd.R_reads' HJ.out).2.2 (fun x hx => by rw [List.mem_singleton.1 hx]; decide) (hz.below (below_alloc (Below.refl _ _) _))
  (fun M hM => Nat.le_trans (hM.short (d := 2) (by decide) (fun j hj => ⟨(hwin j hj).1, (hwin j hj).2.1⟩)) (by decide)))
 have HB0 := Aside0.mk (below_alloc (Below.refl w.heap.size w) (.cells #[.int .i64 0, .int .i64 2, .int .i64 2] 36))
 have HWIN := hid hwin
 clear hwin HJ hz
 go_enter Tryd.func7, Tryd.ntmps7
 go_wp2_with (fail)
 refine HP.out.mono ?_
 rintro e w1 ⟨p, AS, nS, cS, A2, n2, c2, A3, n3, c3, sum, M, rfl, hC, hp, _, hb⟩
 have hpt : p = true := hp.2 ((hC.window (d := 2) (by decide) HWIN.out).2 ⟨fun j hj => by rw [List.mem_singleton.1 hj]; decide, by decide⟩)
 subst hpt
 have HB1 := Aside0.mk (HB0.out.trans (hb.mono HB0.out.size))
 clear hC hp hb HP HB0 HWIN
 go_wp2_with (fail)
 obtain ⟨W2, hW2⟩ : ∃ W2, W2 = w1.alloc (.cells #[.bool true, .slice AS nS cS, .slice A2 n2 c2, .slice A3 n3 c3] 54) := ⟨_, rfl⟩
 have HA2 := hid (show W2.heap[w1.heap.size]? = some (.cells #[.bool true, .slice AS nS cS, .slice A2 n2 c2, .slice A3 n3 c3] 54 (0, 0)) by rw [hW2]; exact blk_new _ _)
 have HB2 := Aside0.mk (show Below w.heap.size w W2 by rw [hW2]; exact below_alloc HB1.out _)
 obtain ⟨ab, hab⟩ : ∃ ab, ab = w1.heap.size := ⟨_, rfl⟩
 rw [← hab] at HA2
 rw [← hW2, ← hab]
 clear hW2 hab HB1
 refine (label_Encode.calls 10 ⟨#[97]⟩ 0 ⟨#[97]⟩ 0 W2 enc_a).mono ?_
 rintro e w3 ⟨rfl, hb⟩
 have HA3 := hid (show w3.heap[ab]? = some (.cells #[.bool true, .slice AS nS cS, .slice A2 n2 c2, .slice A3 n3 c3] 54 (0, 0)) from (hb.block ab (lt_of_some HA2.out)).trans HA2.out)
 have HB3 := Aside0.mk (HB2.out.trans (hb.mono HB2.out.size))
 clear hb HA2 HB2
 have z0 : w3.cell? ⟨ab, 0, none⟩ = some (.bool true) := by simp [World.cell?, HA3.out]
 go_wp2_with (fail)
 refine (two_walk _).mono ?_
 rintro e w4 ⟨rfl, hb⟩
 have HB4 := Aside0.mk (HB3.out.trans (hb.mono HB3.out.size))
 clear hb
 go_wp2_with (fail)
 go_ret
 exact ⟨rfl, HB4.out⟩
end Go.Proofs.YtiioklboaookiaaDoor.Q
namespace Go.Proofs.YtiioklboaookiaaDoor.Q
open Go.RowKit Go.Proofs.YtiioklboaookiaaDoorW.PrintWords Go.Proofs.YtiioklboaookiaaDoorW.PrintLast Go.Proofs.YtiioklboaookiaaDoor.Hand Go.Proofs.YtiioklboaookiaaDoorW.PrintMore
attribute [local go_sem] max2_int min2_int max_two min_two max_three min_three max_four min_four
set_option linter.unusedVariables false
set_option linter.unusedSimpArgs false
def ByB (g : Nat) (B : List Int) (w : World) : Prop := ∃ (C : Array Value) (m : Nat), w.heap[g]? = some (.cells C 5 (m, m + 1)) ∧ B.length ≤ m ∧ ∀ j : Nat, j < B.length → C[j]? = some (.int .u8 (rd B (j : Int)))
theorem ByB.cell {g : Nat} {B : List Int} {w : World} (h : ByB g B w) (j : Nat) (hj : j < B.length) : w.cell? ⟨g, j, none⟩ = some (.int .u8 (rd B (j : Int))) := by
 obtain ⟨C, m, h1, h2, h3⟩ := h; simp [World.cell?, h1, h3 j hj]
theorem ByB.put {g : Nat} {B : List Int} {w : World} (h : ByB g B w) (j : Nat) (hj : j < B.length) (v : Int) : ByB g (B.set j v) (w.setCell ⟨g, j, none⟩ (.int .u8 v)) := by
 obtain ⟨C, m, h1, h2, h3⟩ := h
 refine ⟨C.setIfInBounds j (.int .u8 v), m, ?_, by rw [List.length_set]; exact h2, fun i hi => ?_⟩
 ·have hb : g < w.heap.size := lt_of_some h1
  simp [World.setCell, Array.getElem?_modify, h1]
 ·rw [List.length_set] at hi
  have hc := h3 i hi
  have hs : j < C.size := lt_of_some (h3 j hj)
  rw [Array.getElem?_setIfInBounds]
  unfold rd
  rw [Int.toNat_natCast, List.getD_eq_getElem?_getD, List.getElem?_set]
  by_cases e : j = i
  ·subst e; simp [hs, hj]
  ·rw [if_neg e, if_neg e, hc]
   unfold rd
   rw [Int.toNat_natCast, List.getD_eq_getElem?_getD]
theorem ByB.lt {g : Nat} {B : List Int} {w : World} (h : ByB g B w) : g < w.heap.size := by obtain ⟨C, m, h1, h2⟩ := h; exact lt_of_some h1
theorem ByB.step {g : Nat} {B : List Int} {w w1 : World} (h : ByB g B w) (he : w1.heap[g]? = w.heap[g]?) : ByB g B w1 := by obtain ⟨C, m, h1, h2⟩ := h; exact ⟨C, m, he.trans h1, h2⟩
theorem ByB.below {g : Nat} {B : List Int} {w w1 : World} (h : ByB g B w) (hb : Below w.heap.size w w1) : ByB g B w1 := h.step (hb.block g h.lt)
theorem tmod_nat (a : Int) (b : Nat) (hb : 0 < b) (hb' : b ≤ 100000) : ∃ r : Nat, silversidetop_mod.f a (b : Int) = some (r : Int) ∧ r < b := by
 unfold silversidetop_mod.f
 have e1 : IntKind.u64.wrap (b : Int) = b := by rw [IntKind.wrap_u64]; omega
 have e2 : 0 ≤ IntKind.u64.wrap a := by rw [IntKind.wrap_u64]; omega
 rw [e1, if_neg (by omega), Int.tmod_eq_emod_of_nonneg e2]
 generalize IntKind.u64.wrap a = x at *
 have h1 : 0 ≤ x % (b : Int) := Int.emod_nonneg _ (by omega)
 have h2 : x % (b : Int) < b := Int.emod_lt_of_pos _ (by omega)
 refine ⟨(x % (b : Int)).toNat, ?_, by omega⟩
 rw [w64_in _ (by omega) (by omega)]
 congr 1; omega
end Go.Proofs.YtiioklboaookiaaDoor.Q
namespace Go.Proofs.YtiioklboaookiaaDoor.Q
open Go.RowKit Go.Proofs.YtiioklboaookiaaDoorW.PrintWords Go.Proofs.YtiioklboaookiaaDoorW.PrintLast Go.Proofs.YtiioklboaookiaaDoor.Hand Go.Proofs.YtiioklboaookiaaDoorW.PrintMore
attribute [local go_sem] max2_int min2_int max_two min_two max_three min_three max_four min_four
set_option linter.unusedVariables false
set_option linter.unusedSimpArgs false
def blankIn (m : Nat) (b : S34) : Prop := 1 ≤ b.f0 ∧ b.f0 ≤ (m : Int) ∧ 1 ≤ b.f1 ∧ b.f1 ≤ (m : Int) ∧ 0 ≤ b.f2 ∧ b.f2 < 200
theorem blankIn.ok {m : Nat} {b : S34} (h : blankIn m b) (hm : m ≤ 48) : blankOk b = true := by
 obtain ⟨h1, h2, h3, h4, h5, h6⟩ := h
 exact decide_eq_true ⟨h1, by omega, h3, by omega, h5, by omega⟩
theorem task_stop (k : Nat) (m n i a b : Int) (l : List S34) (W H : Int) (acc : List S34) (h : ¬ (i < (l.length : Int) ∧ i < n)) : silversidetop_task.l0 (k + 2) m n i a b l W H acc = some (W, H, acc) := by
 rw [silversidetop_task.l0]
 by_cases hi : i < (l.length : Int)
 ·rw [if_pos hi, decide_eq_false (fun h' => h ⟨hi, h'⟩), silversidetop_task.j1, if_neg Bool.false_ne_true]
 ·rw [if_neg hi, silversidetop_task.j1, if_neg Bool.false_ne_true]
theorem task_step (k : Nat) (m n i a b : Int) (l : List S34) (W H : Int) (acc : List S34) (h0 : 0 ≤ i) (h1 : i < (l.length : Int)) (h2 : i < n) (t1 t2 t3 : Int) (e1 : silversidetop_mod.f (wrap64 (((rd_T34 l i).f0) - 1)) m = some t1) (e2 : silversidetop_mod.f (wrap64 (((rd_T34 l i).f1) - 1)) m = some t2)
  (e3 : silversidetop_mod.f ((rd_T34 l i).f2) 200 = some t3) (hl : acc.length < 5864062014805) :
  silversidetop_task.l0 (k + 2) m n i a b l W H acc = silversidetop_task.l0 k m n (wrap64 (i + 1)) a b l W H (acc ++ [(⟨wrap64 (1 + t1), wrap64 (1 + t2), t3⟩ : S34)]) := by
 rw [silversidetop_task.l0, if_pos h1, decide_eq_true h2, silversidetop_task.j1, if_pos rfl, if_pos h0, if_pos h1, e1, Option.bind_some, e2, Option.bind_some, e3, Option.bind_some, if_pos hl]
theorem task_l0 (m n : Nat) (a b : Int) (l : List S34) (W H : Int) (hm : 0 < m) (hm2 : m ≤ 48) (hn : n ≤ 16) : ∀ (j i : Nat) (acc : List S34), acc.length = i → i + j = n → (∀ x, x ∈ acc → blankIn m x) →
  ∃ r, silversidetop_task.l0 (2 * j + 2) (m : Int) (n : Int) (i : Int) a b l W H acc = some (W, H, r) ∧ r.length ≤ n ∧ ∀ x, x ∈ r → blankIn m x := by
 intro j
 induction j with
 | zero =>
  intro i acc h1 h2 h3
  exact ⟨acc, task_stop 0 m n i a b l W H acc (by omega), by omega, h3⟩
 | succ j ih =>
  intro i acc h1 h2 h3
  by_cases hi : (i : Int) < (l.length : Int)
  ·obtain ⟨r1, e1, g1⟩ := tmod_nat (wrap64 (((rd_T34 l i).f0) - 1)) m hm (by omega)
   obtain ⟨r2, e2, g2⟩ := tmod_nat (wrap64 (((rd_T34 l i).f1) - 1)) m hm (by omega)
   obtain ⟨r3, e3, g3⟩ := tmod_nat ((rd_T34 l i).f2) 200 (by omega) (by omega)
   have hst := task_step (2 * j + 2) m n i a b l W H acc (by omega) hi (by omega) _ _ _ e1 e2 e3 (by omega)
   have w1 : wrap64 (1 + (r1 : Int)) = 1 + (r1 : Int) := w64_in _ (by omega) (by omega)
   have w2 : wrap64 (1 + (r2 : Int)) = 1 + (r2 : Int) := w64_in _ (by omega) (by omega)
   have w3 : wrap64 ((i : Int) + 1) = ((i + 1 : Nat) : Int) := by rw [w64_in _ (by omega) (by omega)]; omega
   rw [w1, w2, w3] at hst
   have hB : blankIn m (⟨1 + (r1 : Int), 1 + (r2 : Int), (r3 : Int)⟩ : S34) := by
    clear hst e1 e2 e3 w1 w2 w3 ih h3
    unfold blankIn
    dsimp only
    omega
   obtain ⟨r, q1, q2, q3⟩ := ih (i + 1) (acc ++ [(⟨1 + (r1 : Int), 1 + (r2 : Int), (r3 : Int)⟩ : S34)]) (by rw [List.length_append, h1]; rfl) (by omega) (fun x hx => by
    rcases List.mem_append.1 hx with hx | hx
    ·exact h3 x hx
    ·rw [List.mem_singleton.1 hx]; exact hB)
   exact ⟨r, hst.trans q1, q2, q3⟩
  ·exact ⟨acc, task_stop (2 * (j + 1)) m n i a b l W H acc (fun h => hi h.1), by omega, h3⟩
theorem task_spec (m n : Nat) (a b : Int) (l : List S34) (hm : 0 < m) (hm2 : m ≤ 48) (hn : n ≤ 16) :
  ∃ (k W H : Nat) (r : List S34), silversidetop_task.f k a b l (m : Int) (n : Int) = some ((W : Int), (H : Int), r) ∧ 1 ≤ W ∧ W ≤ m ∧ 1 ≤ H ∧ H ≤ m ∧ r.length ≤ n ∧ ∀ x, x ∈ r → blankIn m x := by
 obtain ⟨r1, e1, g1⟩ := tmod_nat (wrap64 (a - 1)) m hm (by omega)
 obtain ⟨r2, e2, g2⟩ := tmod_nat (wrap64 (b - 1)) m hm (by omega)
 have w1 : wrap64 (1 + (r1 : Int)) = ((1 + r1 : Nat) : Int) := by rw [w64_in _ (by omega) (by omega)]; omega
 have w2 : wrap64 (1 + (r2 : Int)) = ((1 + r2 : Nat) : Int) := by rw [w64_in _ (by omega) (by omega)]; omega
 obtain ⟨r, h1, h2, h3⟩ := task_l0 m n a b l ((1 + r1 : Nat) : Int) ((1 + r2 : Nat) : Int) hm hm2 hn n 0 [] rfl (by omega) (fun x hx => by simp at hx)
 refine ⟨2 * n + 2, 1 + r1, 1 + r2, r, ?_, by omega, by omega, by omega, by omega, h2, h3⟩
 unfold silversidetop_task.f
 rw [e1, Option.bind_some, e2, Option.bind_some, w1, w2]
 exact h1
end Go.Proofs.YtiioklboaookiaaDoor.Q
namespace Go.Proofs.YtiioklboaookiaaDoor.Q
open Go.RowKit Go.Proofs.YtiioklboaookiaaDoorW.PrintWords Go.Proofs.YtiioklboaookiaaDoorW.PrintLast Go.Proofs.YtiioklboaookiaaDoor.Hand Go.Proofs.YtiioklboaookiaaDoorW.PrintMore
attribute [local go_sem] max2_int min2_int max_two min_two max_three min_three max_four min_four
set_option linter.unusedVariables false
set_option linter.unusedSimpArgs false
set_option maxHeartbeats 8000000 in
set_option maxRecDepth 100000 in
theorem poss_walk (b : Nat) (A0 : Option Addr) (c0 : Nat) (l : List S34) (w : World) (hb : b ≤ 8) (hl : l.length ≤ 32) (hr : Kd.C k34 w A0 l.length l) (hv : ∀ x, x ∈ l → jobOk x = true) (hz : NoneAt w) :
  Calls Tryd.prog 16 #[.agg #[.int .i64 b, .slice A0 l.length c0]] w fun e w' => ∃ p sum M, e = .returned (.bool p) ∧ Cut b l M sum ∧ (p = true ↔ sum = workF l) ∧ Below w.heap.size w w' := by
 have HR := Aside0.mk hr
 have HV := hid hv
 have HZ := hid hz
 have hzlt : 0 < w.heap.size := World.block_lt_of_cell? w _ hz.1
 clear hr hv hz
 go_enter Tryd.func16, Tryd.ntmps16
 go_wp2_with (fail)
 obtain ⟨W2, hW2⟩ : ∃ W2, W2 = w.alloc (.cells #[.int .i64 b, .slice A0 l.length c0] 60) := ⟨_, rfl⟩
 have hb2 : Below w.heap.size w W2 := by rw [hW2]; exact below_alloc (Below.refl _ _) _
 rw [← hW2]
 have HB2 := Aside0.mk hb2
 have hws2 : w.heap.size ≤ W2.heap.size := hb2.size
 clear hW2
 refine (newp_walk b A0 c0 l W2 hb hl (Kd.C_below HR.out hb2) HV.out).mono ?_
 rintro e w3 ⟨pb, nb, mb, xb, B, cnt, A1, c1, vs, rfl, hp3, ⟨base, hpa⟩, hBs, hcnt, hn3, hpB, hb3⟩
 have hB1 : 1 ≤ B := by omega
 have HB3 := Aside0.mk (HB2.out.trans (hb3.mono hb2.size)).drew
 have HZ3 := hid (HZ.out.below HB3.out)
 have HP3 := hid (show ProbAt pb b A0 l.length c0 (.pointer (some ⟨nb, 0, none⟩)) A1 (spansF l).length c1 (workF l) w3.drew from hp3)
 have HN3 := hid (hn3.below (below_drew1 (Below.refl _ _)))
 have HS := hid (show w3.drew.cell? ⟨pb, 2, none⟩ = some (.pointer (some ⟨nb, 0, none⟩)) ∧ w3.drew.cell? ⟨pb, 4, none⟩ = some (.int .i64 (workF l)) from ⟨HP3.out.cells.2.2.1, HP3.out.cells.2.2.2.2.1⟩)
 have hm := spans_len l hl
 have hwB : w.heap.size ≤ B := by omega
 clear hp3 hpa hBs hn3 hb3 hb2 HB2
 go_wp2_with (fail)
 refine start_ (n := 13) (S := fun w' => w'.cell? ⟨pb, 2, none⟩ = some (.pointer (some ⟨nb, 0, none⟩)) ∧ w'.cell? ⟨pb, 4, none⟩ = some (.int .i64 (workF l))) (ds := []) #[false, false, false, false, false, false, false, false, false, false, false, false, false] (by kernel_rfl) rfl rfl HS.out (fun hHeld => ?_)
 refine pure_ (i := 0) (N := some 6) (v := ?_) (a' := ?_) #[true, false, false, false, false, false, false, false, false, false, false, false, false] rfl rfl (by kernel_rfl) (fun _ _ _ h => h) (Or.inl ⟨by rfl, ?_⟩) ?_ ?_
 rotate_left
 ·intro w'
  go_simp
  with_reducible rfl
 rotate_left
 ·simp only [Act.put, List.setIfInBounds_toArray, List.set_cons_zero, List.set_cons_succ, i64_w, i32_w]
  rfl
 refine pure_ (i := 1) (N := some 7) (v := ?_) (a' := ?_) #[true, true, false, false, false, false, false, false, false, false, false, false, false] rfl rfl (by kernel_rfl) (fun _ _ _ h => h) (Or.inl ⟨by rfl, ?_⟩) ?_ ?_
 rotate_left
 ·intro w'
  go_simp
  with_reducible rfl
 rotate_left
 ·simp only [Act.put, List.setIfInBounds_toArray, List.set_cons_zero, List.set_cons_succ, i64_w, i32_w]
  rfl
 refine pure_ (i := 2) (N := some 8) (v := ?_) (a' := ?_) #[true, true, true, false, false, false, false, false, false, false, false, false, false] rfl rfl (by kernel_rfl) (fun _ _ _ h => h) (Or.inl ⟨by rfl, ?_⟩) ?_ ?_
 rotate_left
 ·intro w'
  go_simp
  with_reducible rfl
 rotate_left
 ·simp only [Act.put, List.setIfInBounds_toArray, List.set_cons_zero, List.set_cons_succ, i64_w, i32_w]
  rfl
 refine take_ (i := 3) (N := some 9) (v := ?_) (a' := ?_) #[true, true, true, true, false, false, false, false, false, false, false, false, false] rfl rfl (by kernel_rfl) (fun _ _ _ h => h) (Or.inl ⟨by rfl, ?_⟩) hHeld ?_ ?_
 rotate_left
 ·rintro w' ⟨s0, s1⟩
  go_simp
  with_reducible rfl
 rotate_left
 ·simp only [Act.put, List.setIfInBounds_toArray, List.set_cons_zero, List.set_cons_succ, i64_w, i32_w]
  rfl
 refine pure_ (i := 4) (N := some 10) (v := ?_) (a' := ?_) #[true, true, true, true, true, false, false, false, false, false, false, false, false] rfl rfl (by kernel_rfl) (fun _ _ _ h => h) (Or.inl ⟨by rfl, ?_⟩) ?_ ?_
 rotate_left
 ·intro w'
  go_simp
  with_reducible rfl
 rotate_left
 ·simp only [Act.put, List.setIfInBounds_toArray, List.set_cons_zero, List.set_cons_succ, i64_w, i32_w]
  rfl
 refine pure_ (i := 7) (N := some 13) (v := ?_) (a' := ?_) #[true, true, true, true, true, false, false, true, false, false, false, false, false] rfl rfl (by kernel_rfl) (fun _ _ _ h => h) (Or.inl ⟨by rfl, ?_⟩) ?_ ?_
 rotate_left
 ·intro w'
  go_simp
  with_reducible rfl
 rotate_left
 ·simp only [Act.put, List.setIfInBounds_toArray, List.set_cons_zero, List.set_cons_succ, i64_w, i32_w]
  rfl
 refine pure_ (i := 8) (N := some 14) (v := ?_) (a' := ?_) #[true, true, true, true, true, false, false, true, true, false, false, false, false] rfl rfl (by kernel_rfl) (fun _ _ _ h => h) (Or.inl ⟨by rfl, ?_⟩) ?_ ?_
 rotate_left
 ·intro w'
  go_simp
  with_reducible rfl
 rotate_left
 ·simp only [Act.put, List.setIfInBounds_toArray, List.set_cons_zero, List.set_cons_succ, i64_w, i32_w]
  rfl
 refine pure_ (i := 9) (N := some 15) (v := ?_) (a' := ?_) #[true, true, true, true, true, false, false, true, true, true, false, false, false] rfl rfl (by kernel_rfl) (fun _ _ _ h => h) (Or.inl ⟨by rfl, ?_⟩) ?_ ?_
 rotate_left
 ·intro w'
  go_simp
  with_reducible rfl
 rotate_left
 ·simp only [Act.put, List.setIfInBounds_toArray, List.set_cons_zero, List.set_cons_succ, i64_w, i32_w]
  rfl
 refine take_ (i := 10) (N := some 16) (v := ?_) (a' := ?_) #[true, true, true, true, true, false, false, true, true, true, true, false, false] rfl rfl (by kernel_rfl) (fun _ _ _ h => h) (Or.inl ⟨by rfl, ?_⟩) hHeld ?_ ?_
 rotate_left
 ·rintro w' ⟨s0, s1⟩
  go_simp
  with_reducible rfl
 rotate_left
 ·simp only [Act.put, List.setIfInBounds_toArray, List.set_cons_zero, List.set_cons_succ, i64_w, i32_w]
  rfl
 refine one_ (i := 5) (N := some 11) #[true, true, true, true, true, true, false, true, true, true, true, false, false] rfl rfl (by kernel_rfl) (by decide) (fun K hK => ?_)
 refine goes_ Tryd.func32 (by kernel_rfl) rfl #[.pointer (some ⟨pb, 0, none⟩)] (by rfl) rfl rfl (by (try simp only [List.map_toArray, List.map_cons, List.map_nil]); first | done | rfl) ?_
 refine (last_walk pb b _ l.length c0 _ _ (spansF l).length c1 _ _ HP3.out (by omega) (by omega)).mono ?_
 rintro e w4 ⟨rfl, q4, rfl⟩
 have hb4 := pw_below_drewN (Below.refl w3.drew.heap.size w3.drew) q4
 have g0_ := pw_cell_below hb4 HS.out.1
 have g1_ := pw_cell_below hb4 HS.out.2
 have HS4 := hid (And.intro g0_ g1_)
 have HN4 := hid (HN3.out.below hb4)
 clear hb4 g0_ g1_
 refine ⟨_, rfl, ?_⟩
 refine hK.out _ _ HS4.out (fun hHeld => ?_)
 clear hK K
 refine norm_ (a' := ?_) ?_ ?_
 rotate_left
 ·show Act.put _ (some 11) _ = _
  simp only [Act.put, List.setIfInBounds_toArray, List.set_cons_zero, List.set_cons_succ, i64_w, i32_w]
  rfl
 refine one_ (i := 6) (N := some 12) #[true, true, true, true, true, true, true, true, true, true, true, false, false] rfl rfl (by kernel_rfl) (by decide) (fun K hK => ?_)
 refine goes_ Tryd.func31 (by kernel_rfl) rfl #[.pointer (some ⟨nb, 0, none⟩), .int .i64 0, .int .i64 ((1 + l.length + (spansF l).length : Nat) : Int)] (by rfl) rfl rfl (by (try simp only [List.map_toArray, List.map_cons, List.map_nil]); first | done | rfl) ?_
 refine (fill_prob b l hb hl HV.out nb mb xb B cnt vs _ HN4.out hcnt (HZ3.out.keep (pw_below_drewN (Below.refl B w3.drew) q4) hB1) hB1).mono ?_
 rintro e w5 ⟨sum, M', n', rfl, hAN, hn5, hk5⟩
 have HAN := hid hAN
 have HK5 := hid ((NetKeep.of (B := B) (pw_below_drewN (Below.refl w3.drew.heap.size w3.drew) q4) HN3.out.base).trans hk5)
 have HP5 := hid (show ProbAt pb b A0 l.length c0 (.pointer (some ⟨nb, 0, none⟩)) A1 (spansF l).length c1 (workF l) w5 from HK5.out.blk _ _ _ _ HP3.out (by decide) (by decide))
 have g0_ := HP5.out.cells.2.2.1
 have g1_ := HP5.out.cells.2.2.2.2.1
 clear hAN hn5 hk5
 refine ⟨_, rfl, ?_⟩
 refine hK.out _ _ ⟨g0_, g1_⟩ (fun hHeld => ?_)
 clear hK K
 refine norm_ (a' := ?_) ?_ ?_
 rotate_left
 ·show Act.put _ (some 12) _ = _
  simp only [Act.put, List.setIfInBounds_toArray, List.set_cons_zero, List.set_cons_succ, i64_w, i32_w]
  rfl
 refine pure_ (i := 11) (N := some 17) (v := ?_) (a' := ?_) #[true, true, true, true, true, true, true, true, true, true, true, true, false] rfl rfl (by kernel_rfl) (fun _ _ _ h => h) (Or.inl ⟨by rfl, ?_⟩) ?_ ?_
 rotate_left
 ·intro w'
  go_simp
  with_reducible rfl
 rotate_left
 ·simp only [Act.put, List.setIfInBounds_toArray, List.set_cons_zero, List.set_cons_succ, i64_w, i32_w]
  rfl
 refine pure_ (i := 12) (N := some 2) (v := ?_) (a' := ?_) #[true, true, true, true, true, true, true, true, true, true, true, true, true] rfl rfl (by kernel_rfl) (fun _ _ _ h => h) (Or.inl ⟨by rfl, ?_⟩) ?_ ?_
 rotate_left
 ·intro w'
  go_simp
  with_reducible rfl
 rotate_left
 ·simp only [Act.put, List.setIfInBounds_toArray, List.set_cons_zero, List.set_cons_succ, i64_w, i32_w]
  rfl
 refine done_ (by kernel_rfl) ?_
 clear g0_ g1_ HS4 HN4
 have HB5 := Aside0.mk (HB3.out.trans (HK5.out.bel.mono hwB))
 go_wp2_with (fail)
 go_ret
 exact ⟨_, sum, M', rfl, HAN.out, by simp, HB5.out⟩
def FewestIs (ok : Nat → Prop) (n : Nat) : Prop := (n = 0 ∧ ∀ b, 1 ≤ b → b ≤ 8 → ¬ ok b) ∨ (1 ≤ n ∧ n ≤ 8 ∧ ok n ∧ ∀ b, 1 ≤ b → b < n → ¬ ok b)
set_option maxHeartbeats 8000000 in
set_option maxRecDepth 100000 in
theorem fewest_walk (A0 : Option Addr) (c0 : Nat) (l : List S34) (d : Int) (w : World) (hl : l.length ≤ 32) (hr : Kd.C k34 w A0 l.length l) (hv : ∀ x, x ∈ l → jobOk x = true) (hz : NoneAt w) (hd : 0 < d) (hw : ∀ j, j ∈ l → j.f0 = 0 ∧ j.f1 = d ∧ 0 ≤ j.f2) :
  Calls Tryd.prog 8 #[.slice A0 l.length c0] w fun e w' => ∃ n : Nat, e = .returned (.tuple #[.int .i64 n, .int .i64 0]) ∧ FewestIs (fun b => (∀ j, j ∈ l → j.f2 ≤ d) ∧ workF l ≤ b * d) n ∧ Below w.heap.size w w' := by
 have HR := Aside0.mk hr
 have HV := hid hv
 have HZ := hid hz
 have HW := hid hw
 have HD := hid hd
 clear hr hv hz hw hd
 go_enter Tryd.func8, Tryd.ntmps8
 go_wp2_with (fail)
 refine (btask_walk 1 A0 c0 l w (by omega) (by omega) hl HR.out HV.out).mono ?_
 rintro e w2 ⟨rfl, hb2⟩
 go_wp2_with (fail)
 obtain ⟨W3, hW3⟩ : ∃ W3, W3 = w2.alloc (.cells #[.int .i64 1, .slice A0 l.length c0] 60) := ⟨_, rfl⟩
 obtain ⟨tb, htb⟩ : ∃ tb, tb = w2.heap.size := ⟨_, rfl⟩
 have HA3 := Aside0.mk (show W3.heap[tb]? = some (.cells #[.int .i64 ((1 : Nat) : Int), .slice A0 l.length c0] 60 (0, 0)) by rw [hW3, htb]; exact blk_new _ _)
 have HB3 := Aside0.mk (show Below w.heap.size w W3 by rw [hW3]; exact below_alloc hb2 _)
 have htw : w.heap.size ≤ tb := by rw [htb]; exact hb2.size
 have HTW := hid htw
 rw [← hW3, ← htb]
 clear hW3 htb hb2 htw
 go_loopg [] 9 (fun kq w' => ∃ b : Nat, 1 ≤ b ∧ b + kq = 10 ∧ b ≤ 9 ∧ Aside0 (w'.heap[tb]? = some (.cells #[.int .i64 (b : Int), .slice A0 l.length c0] 60 (0, 0))) ∧ Aside0 (Below w.heap.size w w') ∧ Aside0 (∀ b', 1 ≤ b' → b' < b → ¬ ((∀ j, j ∈ l → j.f2 ≤ d) ∧ workF l ≤ b' * d)))
 case atStart => exact ⟨1, by omega, by omega, by omega, HA3, HB3, ⟨fun b' h1 h2 => by omega⟩⟩
 case round =>
  clear HA3 HB3
  obtain ⟨b, hb1, hbk, hb9, HA, HB, HNO⟩ := hrel
  have z0 : wr.cell? ⟨tb, 0, none⟩ = some (.int .i64 b) := by simp [World.cell?, HA.out]
  have z1 : wr.cell? ⟨tb, 1, none⟩ = some (.slice A0 l.length c0) := by simp [World.cell?, HA.out]
  by_cases hb8 : b ≤ 8
  ·have d1 : decide ((b : Int) ≤ 8) = true := decide_eq_true (by omega)
   have HP := hid (poss_walk b A0 c0 l wr hb8 hl (Kd.C_below HR.out HB.out) HV.out (HZ.out.below HB.out))
   go_wp2_with (fail)
   refine HP.out.mono ?_
   rintro e w4 ⟨p, sum, M, rfl, hC, hp, hb4⟩
   have HOK := hid (show p = true ↔ ((∀ j, j ∈ l → j.f2 ≤ d) ∧ workF l ≤ b * d) from hp.trans (hC.window HD.out HW.out))
   have HA4 := Aside0.mk (show w4.heap[tb]? = some (.cells #[.int .i64 (b : Int), .slice A0 l.length c0] 60 (0, 0)) from (hb4.block tb (lt_of_some HA.out)).trans HA.out)
   have HB4 := Aside0.mk (HB.out.trans (hb4.mono HB.out.size))
   clear hC hp hb4 HP z0 z1 HA HB
   have z0 : w4.cell? ⟨tb, 0, none⟩ = some (.int .i64 b) := by simp [World.cell?, HA4.out]
   have f0 : w4.frozen? ⟨tb, 0, none⟩ = false := by simp [World.frozen?, HA4.out]
   rcases Bool.eq_false_or_eq_true p with hpp | hpp
   ·have hok := HOK.out.1 hpp
    have HOK1 := hid hok
    subst hpp
    clear hok
    have d2 : decide ((8 : Int) < (b : Int)) = false := decide_eq_false (by omega)
    go_wp2_with (fail)
    go_ret2
    exact ⟨b, rfl, Or.inr ⟨hb1, hb8, HOK1.out, HNO.out⟩, HB4.out⟩
   ·have hno : ¬ ((∀ j, j ∈ l → j.f2 ≤ d) ∧ workF l ≤ b * d) := fun h => by rw [HOK.out.2 h] at hpp; exact absurd hpp (by decide)
    have HNO1 := hid hno
    subst hpp
    clear hno
    go_wp2_with (fail)
    go_roundg (9 - b)
    case rel =>
     refine ⟨b + 1, by omega, by omega, by omega, ⟨blk_put HA4.out 0 (.int .i64 ((b : Int) + 1)) rfl⟩, ⟨HB4.out.setCell HTW.out _⟩, ⟨fun b' h1 h2 h3 => ?_⟩⟩
     by_cases e : b' = b
     ·subst e; exact HNO1.out h3
     ·exact HNO.out b' h1 (by omega) h3
    case measure => omega
  ·have d1 : decide ((b : Int) ≤ 8) = false := decide_eq_false (by omega)
   have d2 : decide ((8 : Int) < (b : Int)) = true := decide_eq_true (by omega)
   go_wp2_with (fail)
   go_ret2
   exact ⟨0, rfl, Or.inl ⟨rfl, fun b' h1 h2 => HNO.out b' h1 (by omega)⟩, HB.out⟩
end Go.Proofs.YtiioklboaookiaaDoor.Q
namespace Go.Proofs.YtiioklboaookiaaDoor.Q
open Go.RowKit Go.Proofs.YtiioklboaookiaaDoorW.PrintWords Go.Proofs.YtiioklboaookiaaDoorW.PrintLast Go.Proofs.YtiioklboaookiaaDoor.Hand Go.Proofs.YtiioklboaookiaaDoorW.PrintMore
attribute [local go_sem] max2_int min2_int max_two min_two max_three min_three max_four min_four
set_option linter.unusedVariables false
set_option linter.unusedSimpArgs false
def kRow : Kd (Option Addr × Nat × Nat) := Kd.scalar (fun x => Value.slice x.1 x.2.1 x.2.2) (fun _ => rfl)
theorem infoInt3 : (Tryd.prog.info? 3).map (fun i => (i.zero, i.size, i.bytes)) = some (some (.int .i64 0), 1, 8) := by kernel_rfl
theorem infoRow : (Tryd.prog.info? 51).map (fun i => (i.zero, i.size, i.bytes)) = some (some (.slice none 0 0), 1, 24) := by kernel_rfl
theorem R_empty (W : World) (base : Nat) (hb : base ≤ W.heap.size) : Kd.R (Kd.int .i64) 3 (W.alloc (.cells #[] 3)) base (fun _ => True) (.slice (some ⟨W.heap.size, 0, none⟩) 0 0) [] := by
 refine Kd.R_of_own (h1 := fun _ => rfl) ?_ (fun _ _ => trivial)
 exact ⟨rfl, .inr ⟨W.heap.size, 0, #[], rfl, hb, blk_new _ _, by simp, by decide, by simp, by simp [encs]⟩⟩
theorem TabAt.row {b : Nat} {t : Tab} {w : World} (h : TabAt b t w) (x n : Nat) (hx : x < 49) (hn : n ≤ 49) : Kd.C (Kd.int .i64) w (some ⟨b, x * 49, none⟩) n ((List.range n).map fun j => t.T x j) := by
 refine Kd.C_of_reads (enc := Value.int .i64) (h1 := fun _ => rfl) (d := (0 : Int)) ⟨by simp, by omega, fun _ => ⟨_, rfl, fun j hj => ?_⟩⟩
 rw [Go.WideShapes.add_plain, (h.1 x j hx (by omega)).1]
 simp [List.getD_eq_getElem?_getD, hj]
set_option maxHeartbeats 16000000 in
set_option maxRecDepth 100000 in
theorem Best_walk (k W H : Nat) (A0 : Option Addr) (c0 : Nat) (l : List S34) (r : List S72) (w : World) (hW0 : 1 ≤ W) (hW : W < 49) (hH0 : 1 ≤ H) (hH : H < 49) (hl : l.length ≤ 16) (hr : Kd.C k34 w A0 l.length l) (hv : ∀ x, x ∈ l → blankOk x = true) (hp : planF (fillT l W H) k W H = some r) :
  Calls Tryd.prog 9 #[.int .i64 W, .int .i64 H, .slice A0 l.length c0] w fun e w' => ∃ v0 v1, e = .returned (.tuple #[v0, v1, .int .i64 0]) ∧ Kd.R k72 72 w' w.heap.size (fun _ => True) v0 r ∧ Below w.heap.size w w' := by
 have HR := Aside0.mk hr
 have HV := hid hv
 have HP := hid hp
 clear hr hv hp
 have s1 : IntKind.i64.wrap ((W : Int) + 1) = (W : Int) + 1 := IntWalk.i64_in _ (by omega)
 have s2 : IntKind.i64.wrap ((H : Int) + 1) = (H : Int) + 1 := IntWalk.i64_in _ (by omega)
 go_enter Tryd.func9, Tryd.ntmps9
 go_wp2_with (fail)
 refine (newTask_walk W H A0 c0 l w hW0 hW hH0 hH hl HR.out HV.out).mono ?_
 rintro e w1 ⟨rfl, hB⟩
 have HB1 := Aside0.mk hB
 clear hB
 go_wp2_with (fail)
 refine (fill_walk W H A0 c0 l _ hW hH hl (Kd.C_below (Kd.C_below HR.out HB1.out) (below_alloc (Below.refl _ _) _))).mono ?_
 rintro e w2 ⟨b, rfl, hb, hT, hB⟩
 have HB2 : Aside0 (Below w.heap.size w w2) := ⟨HB1.out.trans ((below_alloc (Below.refl _ _) _ |>.mono HB1.out.size).trans (hB.mono (by have := HB1.out.size; simp; omega)))⟩
 have HT2 := Aside0.mk hT
 have hbw : w.heap.size ≤ b := by have := HB1.out.size; simp at hb; omega
 clear hB hT hb
 go_wp2_with (fail)
 go_loopg [12, 28] (W + 1) (fun kq v12 v28 w' => ∃ (i : Nat) (xs : List (Option Addr × Nat × Nat)), v28 = .int .i64 i ∧ i + kq = W + 1 ∧ xs.length ≤ i ∧ Aside0 (Kd.R kRow 51 w' w2.heap.size (fun _ => True) v12 xs) ∧ Aside0 (Below w2.heap.size w2 w'))
 case atStart => exact ⟨0, [], rfl, by omega, by simp, ⟨Kd.R_nil _ _ _ _ _⟩, ⟨Below.refl _ _⟩⟩
 case round =>
  obtain ⟨i, xs, rfl, hi, hxs, HO, HB⟩ := hrel
  obtain ⟨Ao, co, eo⟩ := Kd.R_slice HO.out
  subst eo
  by_cases hlt : i < W + 1
  ·have d1 : decide ((i : Int) < (W : Int) + 1) = true := decide_eq_true (by omega)
   have i0 : (0 : Int) ≤ (i : Int) := by omega
   have i1 : (i : Int) < 49 := by omega
   have h0 : (0 : Int) ≤ (H : Int) + 1 := by omega
   have h1 : (H : Int) + 1 ≤ 49 := by omega
   obtain ⟨ys, hys⟩ : ∃ ys : List Int, ys = (List.range (H + 1)).map fun j => (fillT l W H).T i j := ⟨_, rfl⟩
   have HYS := hid (TabAt.row (TabAt.below (HT2.out.below HB.out) (below_alloc (Below.refl _ _) (.cells #[] 3))) i (H + 1) (by omega) (by omega))
   rw [← hys] at HYS
   have HYL := hid (show ys.length = H + 1 by rw [hys]; simp)
   clear hys
   go_wp2_with (first
    | ((with_reducible refine gate_builtin (b := .append) (xs := #[.tmp 32, .tmp 40]) rfl ?_); at_builtin; refine Kd.R_append_row (Value.int .i64) (0 : Int) (h1 := fun _ => rfl) (w0 := w2) w2.heap.size rfl (.tmp 32) (.tmp 40) 51 3 (.int .i64 0) 8 rfl Tryd.underlying51 infoInt3 rfl (by decide) (.slice (some ⟨wr.heap.size, 0, none⟩) 0 0) [] ys (some ⟨b, i * 49, none⟩) (H + 1) 49 (fun _ => True) rfl rfl (fun _ _ => trivial) (R_empty wr w2.heap.size HB.out.size) HYS.out (below_alloc HB.out _) ?aS ?aL ?_; (case aS => have := HB.out.size; simp; omega); (case aL => simp; omega); intro v5 w5 ho hb hg hat; rw [List.nil_append] at ho; obtain ⟨A5, c5, e5⟩ := Kd.R_slice ho; subst e5; have HB5 := Aside0.mk hb; have HO5 : Aside0 (Kd.R kRow 51 w5 w2.heap.size (fun _ => True) (.slice Ao xs.length co) xs) := ⟨Kd.R_step HO.out (fun k _ hk => (hg.block k (by simp; omega) (by simp [Value.ownBlock]; omega)).trans (heap_old _ _ k hk))⟩; clear ho hb hg hat)
    | ((with_reducible refine gate_builtin (b := .append) (xs := #[.tmp 31, .tmp 42]) rfl ?_); at_builtin; refine Kd.R_append kRow (w0 := w2) w2.heap.size rfl (.tmp 31) (.tmp 42) 43 51 (.slice none 0 0) 24 rfl Tryd.underlying43 infoRow rfl (by decide) (by omega) (.slice Ao xs.length co) xs (A5, ys.length, c5) [.slice A5 ys.length c5] (fun _ => True) (fun _ => False) rfl (by first | (go_simp; done) | (go_simp; rfl)) rfl (fun _ hk => hk.elim) (fun _ _ => trivial) HO5.out HB5.out HB5.out.size ?aL ?_; (case aL => omega); intro v6 w6 ho hb hg hat; have HO6 := Aside0.mk ho; have HB6 := Aside0.mk hb; clear ho hb hg hat))
   go_roundg (W - i)
   case rel => exact ⟨i + 1, _, by go_num, by omega, by rw [List.length_append]; simp; omega, HO6, HB6⟩
   case measure => omega
  ·have d1 : decide ((i : Int) < (W : Int) + 1) = false := decide_eq_false (by omega)
   go_wp2_with (fail)
   refine (plan_walk b (fillT l W H) k W H r wr hW hH (HT2.out.below HB.out) HP.out).mono ?_
   rintro e w3 ⟨v, rfl, ho, hB⟩
   have HO3 := Aside0.mk ho
   have HB3 := Aside0.mk hB
   clear ho hB
   go_wp2_with (fail)
   go_ret3
   have z2 := HB2.out.size
   have z3 := HB.out.size
   exact ⟨_, _, rfl, Kd.R_lower HO3.out (by omega), (HB2.out.trans (HB.out.mono z2)).trans (HB3.out.mono (by omega))⟩
end Go.Proofs.YtiioklboaookiaaDoor.Q
namespace Go.Proofs.YtiioklboaookiaaDoor.Q
open Go.RowKit Go.Proofs.YtiioklboaookiaaDoorW.PrintWords Go.Proofs.YtiioklboaookiaaDoorW.PrintLast Go.Proofs.YtiioklboaookiaaDoor.Hand Go.Proofs.YtiioklboaookiaaDoorW.PrintMore
attribute [local go_sem] max2_int min2_int max_two min_two max_three min_three max_four min_four
set_option linter.unusedVariables false
set_option linter.unusedSimpArgs false
def StepOk (l : List S34) (x y : Nat) (s : Int × Int) : Prop :=
 s = (0, 0) ∨ (s.1 = 1 ∧ 0 ≤ s.2 ∧ s.2 < (l.length : Int) ∧ (rd_T34 l s.2).f0 ≤ (x : Int) ∧ (rd_T34 l s.2).f1 ≤ (y : Int)) ∨ (s.1 = 2 ∧ 1 ≤ s.2 ∧ s.2 < (x : Int)) ∨ (s.1 = 3 ∧ 1 ≤ s.2 ∧ s.2 < (y : Int))
def TabOk (l : List S34) (t : Tab) : Prop := ∀ x y, StepOk l x y (t.S x y)
theorem TabOk.imp {l : List S34} {t : Tab} (h : TabOk l t) (x y : Nat) (v : Int) (s : Int × Int) (hs : StepOk l x y s) : TabOk l (t.imp x y v s) := by
 intro i j
 unfold Tab.imp
 split
 ·show StepOk l i j (if i = x ∧ j = y then s else t.S i j)
  by_cases e : i = x ∧ j = y
  ·rw [if_pos e, e.1, e.2]; exact hs
  ·rw [if_neg e]; exact h i j
 ·exact h i j
theorem fillB_ok (l0 : List S34) (x y : Nat) : ∀ (l : List S34) (k : Nat) (t : Tab), l0.drop k = l → TabOk l0 t → TabOk l0 (fillB x y l k t)
 | [], _, t, _, h => h
 | b :: l, k, t, hd, h => by
  unfold fillB
  have hk : k < l0.length := by
   by_cases e : k < l0.length
   ·exact e
   ·rw [List.drop_eq_nil_of_le (by omega)] at hd; cases hd
  have hb : rd_T34 l0 (k : Int) = b := by
   have := drop_B k hk
   rw [hd] at this
   injection this with h1 _
   exact h1.symm
  have hd2 : l0.drop (k + 1) = l := by
   have := drop_B k hk
   rw [hd] at this
   injection this with _ h2
   exact h2.symm
  refine fillB_ok l0 x y l (k + 1) _ hd2 ?_
  split
  ·rename_i hc
   exact h.imp x y _ _ (.inr (.inl ⟨rfl, by show (0 : Int) ≤ (k : Int); omega, by show (k : Int) < _; omega, by rw [hb]; exact hc.1, by rw [hb]; exact hc.2⟩))
  ·exact h
theorem fillA_ok (l0 : List S34) (x y : Nat) : ∀ (m i : Nat) (t : Tab), 1 ≤ i → i + m ≤ x → TabOk l0 t → TabOk l0 (fillA x y m i t)
 | 0, _, t, _, _, h => h
 | m + 1, i, t, h1, h2, h => by
  unfold fillA
  exact fillA_ok l0 x y m (i + 1) _ (by omega) (by omega) (h.imp x y _ _ (.inr (.inr (.inl ⟨rfl, by show (1 : Int) ≤ (i : Int); omega, by show (i : Int) < _; omega⟩))))
theorem fillL_ok (l0 : List S34) (x y : Nat) : ∀ (m i : Nat) (t : Tab), 1 ≤ i → i + m ≤ y → TabOk l0 t → TabOk l0 (fillL x y m i t)
 | 0, _, t, _, _, h => h
 | m + 1, i, t, h1, h2, h => by
  unfold fillL
  exact fillL_ok l0 x y m (i + 1) _ (by omega) (by omega) (h.imp x y _ _ (.inr (.inr (.inr ⟨rfl, by show (1 : Int) ≤ (i : Int); omega, by show (i : Int) < _; omega⟩))))
theorem fillH_ok (l0 : List S34) (x : Nat) (hx : 1 ≤ x) : ∀ (m y : Nat) (t : Tab), 1 ≤ y → TabOk l0 t → TabOk l0 (fillH l0 x m y t)
 | 0, _, t, _, h => h
 | m + 1, y, t, hy, h => by
  unfold fillH
  exact fillH_ok l0 x hx m (y + 1) _ (by omega) (fillL_ok l0 x y (y - 1) 1 _ (by omega) (by omega) (fillA_ok l0 x y (x - 1) 1 _ (by omega) (by omega) (fillB_ok l0 x y l0 0 t rfl h)))
theorem fillW_ok (l0 : List S34) (H : Nat) : ∀ (m x : Nat) (t : Tab), 1 ≤ x → TabOk l0 t → TabOk l0 (fillW l0 H m x t)
 | 0, _, t, _, h => h
 | m + 1, x, t, hx, h => by
  unfold fillW
  exact fillW_ok l0 H m (x + 1) _ (by omega) (fillH_ok l0 x hx H 1 t (by omega) h)
theorem fillT_ok (l : List S34) (W H : Nat) : TabOk l (fillT l W H) := fillW_ok l H W 1 _ (by omega) (fun _ _ => .inl rfl)
def stepB (s : S72) : Prop := 0 ≤ s.f0 ∧ s.f0 ≤ 3 ∧ 0 ≤ s.f1 ∧ s.f1 < 256
def At (P r : List S72) (i : Nat) : Prop := ∀ j, j < r.length → P[i + j]? = r[j]?
theorem At.head {P r : List S72} {s : S72} {i : Nat} (h : At P (s :: r) i) : i < P.length ∧ rd_T72 P (i : Int) = s := by
 have h0 := h 0 (by simp)
 rw [Nat.add_zero] at h0
 have h1 : P[i]? = some s := h0
 obtain ⟨h2, h3⟩ := List.getElem?_eq_some_iff.1 h1
 refine ⟨h2, ?_⟩
 unfold rd_T72
 rw [Int.toNat_natCast, List.getD_eq_getElem?_getD, h1]; rfl
theorem At.tail {P r : List S72} {s : S72} {i : Nat} (h : At P (s :: r) i) : At P r (i + 1) := fun j hj => by
 have := h (j + 1) (by simpa using hj)
 rw [show i + 1 + j = i + (j + 1) by omega, this]; rfl
theorem At.left {P p q : List S72} {i : Nat} (h : At P (p ++ q) i) : At P p i := fun j hj => by
 rw [h j (by rw [List.length_append]; omega), List.getElem?_append_left hj]
theorem At.right {P p q : List S72} {i : Nat} (h : At P (p ++ q) i) : At P q (i + p.length) := fun j hj => by
 rw [Nat.add_assoc, h (p.length + j) (by rw [List.length_append]; omega), List.getElem?_append_right (by omega), Nat.add_sub_cancel_left]
theorem plan_spec (l : List S34) (hl : l.length ≤ 16) (t : Tab) (ht : TabOk l t) : ∀ (k x y : Nat), 1 ≤ x → 1 ≤ y → x + y ≤ k → x < 49 → y < 49 →
  ∃ r, planF t k x y = some r ∧ r.length + 1 ≤ 2 * (x * y) ∧ (∀ s, s ∈ r → stepB s) ∧ 0 < r.length ∧ ∀ P i, At P r i → ∀ s ar, ∃ s' ar', readF l P k x y i s ar = some (i + r.length, s', ar')
 | 0, x, y, h1, h2, h3, _, _ => by omega
 | k + 1, x, y, h1, h2, h3, hx, hy => by
  unfold planF
  rcases ht x y with h | h | h | h
  ·rw [h, if_neg (by show ¬ (0 : Int) = 2; decide), if_neg (by show ¬ (0 : Int) = 3; decide)]
   have hm : 1 ≤ x * y := Nat.mul_pos (by omega) (by omega)
   refine ⟨_, rfl, by show 1 + 1 ≤ _; omega, fun s hs => ?_, by simp, fun P i hA s ar => ?_⟩
   ·rw [List.mem_singleton.1 hs]; exact ⟨by decide, by decide, by decide, by decide⟩
   ·obtain ⟨g1, g2⟩ := hA.head
    refine ⟨s, ar, ?_⟩
    unfold readF
    rw [if_pos g1]
    dsimp only
    rw [g2, if_pos rfl, if_pos rfl]; rfl
  ·obtain ⟨e1, e2, e3, e4, e5⟩ := h
   rw [if_neg (by omega), if_neg (by omega)]
   have hm : 1 ≤ x * y := Nat.mul_pos (by omega) (by omega)
   refine ⟨_, rfl, by show 1 + 1 ≤ _; omega, fun s hs => ?_, by simp, fun P i hA s ar => ?_⟩
   ·rw [List.mem_singleton.1 hs]; exact ⟨by show 0 ≤ (t.S x y).1; omega, by show (t.S x y).1 ≤ 3; omega, e2, by show (t.S x y).2 < 256; omega⟩
   ·obtain ⟨g1, g2⟩ := hA.head
    refine ⟨wrap64 (s + (rd_T34 l (t.S x y).2).f2), wrap64 (ar + wrap64 ((rd_T34 l (t.S x y).2).f0 * (rd_T34 l (t.S x y).2).f1)), ?_⟩
    unfold readF
    rw [if_pos g1]
    dsimp only
    rw [g2]
    dsimp only
    rw [if_neg (by omega), if_pos e1, if_pos ⟨e2, e3⟩, if_pos ⟨e4, e5⟩]; rfl
  ·obtain ⟨e1, e2, e3⟩ := h
   obtain ⟨a, ha⟩ := Int.eq_ofNat_of_zero_le (show 0 ≤ (t.S x y).2 by omega)
   rw [if_pos e1, if_pos ⟨e2, e3⟩, ha, Int.toNat_natCast]
   obtain ⟨p, p1, p2, p3, p4, p5⟩ := plan_spec l hl t ht k a y (by omega) h2 (by omega) (by omega) hy
   obtain ⟨q, q1, q2, q3, q4, q5⟩ := plan_spec l hl t ht k (x - a) y (by omega) h2 (by omega) (by omega) hy
   have hm : a * y + (x - a) * y = x * y := by rw [← Nat.add_mul]; congr 1; omega
   have hb : x * y ≤ 48 * 48 := Nat.mul_le_mul (by omega) (by omega)
   rw [p1, q1]
   show ∃ r, (if p.length + q.length < 100000 then some ((⟨2, (a : Int)⟩ : S72) :: (p ++ q)) else none) = some r ∧ _
   rw [if_pos (by omega)]
   refine ⟨_, rfl, by rw [List.length_cons, List.length_append]; omega, fun s hs => ?_, by simp, fun P i hA s ar => ?_⟩
   ·rcases List.mem_cons.1 hs with e | hs
    ·rw [e]; exact ⟨by show (0 : Int) ≤ 2; omega, by show (2 : Int) ≤ (3 : Int); omega, by show (0 : Int) ≤ (a : Int); omega, by show (a : Int) < 256; omega⟩
    ·rcases List.mem_append.1 hs with hs | hs
     ·exact p3 s hs
     ·exact q3 s hs
   ·obtain ⟨g1, g2⟩ := hA.head
    have hA2 := hA.tail
    obtain ⟨s1, ar1, hr1⟩ := p5 P (i + 1) hA2.left s ar
    obtain ⟨s2, ar2, hr2⟩ := q5 P (i + 1 + p.length) hA2.right s1 ar1
    refine ⟨s2, ar2, ?_⟩
    unfold readF
    rw [if_pos g1]
    dsimp only
    rw [g2]
    dsimp only
    rw [if_neg (by decide), if_neg (by decide), if_pos rfl, if_pos (by omega), Int.toNat_natCast, hr1]
    show readF l P k (x - a) y (i + 1 + p.length) s1 ar1 = _
    rw [hr2, List.length_cons, List.length_append, show i + 1 + p.length + q.length = i + (p.length + q.length + 1) by omega]
  ·obtain ⟨e1, e2, e3⟩ := h
   obtain ⟨a, ha⟩ := Int.eq_ofNat_of_zero_le (show 0 ≤ (t.S x y).2 by omega)
   rw [if_neg (by omega), if_pos e1, if_pos ⟨e2, e3⟩, ha, Int.toNat_natCast]
   obtain ⟨p, p1, p2, p3, p4, p5⟩ := plan_spec l hl t ht k x a h1 (by omega) (by omega) hx (by omega)
   obtain ⟨q, q1, q2, q3, q4, q5⟩ := plan_spec l hl t ht k x (y - a) h1 (by omega) (by omega) hx (by omega)
   have hm : x * a + x * (y - a) = x * y := by rw [← Nat.mul_add]; congr 1; omega
   have hb : x * y ≤ 48 * 48 := Nat.mul_le_mul (by omega) (by omega)
   rw [p1, q1]
   show ∃ r, (if p.length + q.length < 100000 then some ((⟨3, (a : Int)⟩ : S72) :: (p ++ q)) else none) = some r ∧ _
   rw [if_pos (by omega)]
   refine ⟨_, rfl, by rw [List.length_cons, List.length_append]; omega, fun s hs => ?_, by simp, fun P i hA s ar => ?_⟩
   ·rcases List.mem_cons.1 hs with e | hs
    ·rw [e]; exact ⟨by show (0 : Int) ≤ 3; omega, by show (3 : Int) ≤ (3 : Int); omega, by show (0 : Int) ≤ (a : Int); omega, by show (a : Int) < 256; omega⟩
    ·rcases List.mem_append.1 hs with hs | hs
     ·exact p3 s hs
     ·exact q3 s hs
   ·obtain ⟨g1, g2⟩ := hA.head
    have hA2 := hA.tail
    obtain ⟨s1, ar1, hr1⟩ := p5 P (i + 1) hA2.left s ar
    obtain ⟨s2, ar2, hr2⟩ := q5 P (i + 1 + p.length) hA2.right s1 ar1
    refine ⟨s2, ar2, ?_⟩
    unfold readF
    rw [if_pos g1]
    dsimp only
    rw [g2]
    dsimp only
    rw [if_neg (by decide), if_neg (by decide), if_neg (by decide), if_pos rfl, if_pos (by omega), Int.toNat_natCast, hr1]
    show readF l P k x (y - a) (i + 1 + p.length) s1 ar1 = _
    rw [hr2, List.length_cons, List.length_append, show i + 1 + p.length + q.length = i + (p.length + q.length + 1) by omega]
theorem best_plan (l : List S34) (hl : l.length ≤ 16) (W H : Nat) (hW0 : 1 ≤ W) (hW : W < 49) (hH0 : 1 ≤ H) (hH : H < 49) :
  ∃ r, planF (fillT l W H) 98 W H = some r ∧ r.length ≤ 8192 ∧ 0 < r.length ∧ (∀ s, s ∈ r → stepB s) ∧ ∃ s ar, readF l r 98 W H 0 0 0 = some (r.length, s, ar) := by
 obtain ⟨r, h1, h2, h3, h4, h5⟩ := plan_spec l hl (fillT l W H) (fillT_ok l W H) 98 W H hW0 hH0 (by omega) hW hH
 have hb : W * H ≤ 48 * 48 := Nat.mul_le_mul (by omega) (by omega)
 obtain ⟨s, ar, h6⟩ := h5 r 0 (fun j _ => by rw [Nat.zero_add]) 0 0
 rw [Nat.zero_add] at h6
 exact ⟨r, h1, by omega, h4, h3, s, ar, h6⟩
end Go.Proofs.YtiioklboaookiaaDoor.Q
