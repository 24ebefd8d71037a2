/- A part of the proof: what the law's row needs. -/
import Derived.Maps.Own
import Derived.Laws.StructEq
import Derived.Deep.QuietTactic
import Derived.BigQuiet
import Derived.Test.YtiioklboaookiaaDoorV5
namespace Go.Proofs.YtiioklboaookiaaDoor.Q
open Go.RowKit Go.Proofs.YtiioklboaookiaaDoorW.PrintWords Go.Proofs.YtiioklboaookiaaDoorW.PrintLast Go.Proofs.YtiioklboaookiaaDoor.Hand Go.Proofs.YtiioklboaookiaaDoorW.PrintMore
attribute [local go_sem] max2_int min2_int max_two min_two max_three min_three max_four min_four
set_option linter.unusedVariables false
set_option linter.unusedSimpArgs false
def itP (way : Nat → Int × Int) (t : Nat) : Nat → Nat
 | 0 => t
 | i + 1 => (way (itP way t i)).1.toNat
theorem Tree.next {M : Nat → Nat → Int} {N s : Nat} {way : Nat → Int × Int} {d : Nat → Nat} (h : Tree M N s way d) {t i : Nat} (hv : itP way t i < N) (hw : way (itP way t i) ≠ (-1, -1)) (hs : itP way t i ≠ s) :
  itP way t (i + 1) < N ∧ way (itP way t i) = ((itP way t (i + 1) : Int), (itP way t i : Int)) ∧ 0 < M (itP way t (i + 1)) (itP way t i) ∧ way (itP way t (i + 1)) ≠ (-1, -1) ∧ d (itP way t (i + 1)) < d (itP way t i) := by
 obtain ⟨p, h1, h2, h3, h4, h5⟩ := h.2.1 _ hv hw hs
 have e : itP way t (i + 1) = p := by
  show (way (itP way t i)).1.toNat = p
  rw [h2]; simp
 rw [e]
 exact ⟨h1, h2, h3, h4, h5⟩
theorem Tree.stay {M : Nat → Nat → Int} {N s : Nat} {way : Nat → Int × Int} {d : Nat → Nat} (h : Tree M N s way d) {t k : Nat} (hk : itP way t k = s) (j : Nat) : itP way t (k + j) = s := by
 induction j with
 | zero => exact hk
 | succ j ih =>
  show (way (itP way t (k + j))).1.toNat = s
  rw [ih, h.1]; simp
theorem RoomAt.mono {b n n' : Nat} {M : Nat → Nat → Int} {w : World} (h : RoomAt b n M w) (hn : n ≤ n') : RoomAt b n' M w := by
 obtain ⟨D, h1, h2⟩ := h
 exact ⟨D, h1.mono hn, h2⟩
theorem NetAt.mono {nb mb xb B N n n' : Nat} {M : Nat → Nat → Int} {adj : Nat → List Nat} {vs : Nat → Value} {w : World} (h : NetAt nb mb xb B N n M adj vs w) (hn : n ≤ n') : NetAt nb mb xb B N n' M adj vs w :=
 ⟨h.net, h.room.mono hn, h.row, h.rows, h.apart, h.bn, h.bm, h.bx⟩
theorem grown_cell {w w1 : World} {b : Nat} (hg : w.grownBy w1 (some b)) {a : Addr} {v : Value} (hc : w.cell? a = some v) (hne : a.block ≠ b) : w1.cell? a = some v := by
 have h := hg.block a.block (World.block_lt_of_cell? w a hc) (fun e => hne (Option.some.inj e))
 unfold World.cell? at hc ⊢
 rw [h]; exact hc
theorem NetAt.nbm {nb mb xb B N n : Nat} {M : Nat → Nat → Int} {adj : Nat → List Nat} {vs : Nat → Value} {w : World} (h : NetAt nb mb xb B N n M adj vs w) : nb ≠ mb := fun e => by
 obtain ⟨D, ⟨es, clock, hb, _⟩, _⟩ := h.room
 rw [← e, h.net] at hb
 injection hb with hb
 cases hb
structure Push (M M' : Nat → Nat → Int) (N s t : Nat) (most : Int) : Prop where
 ge : 1 ≤ most
 pos : ∀ x y, 0 ≤ M' x y
 sym : ∀ x y, M' x y + M' y x = M x y + M y x
 row : ∀ x, x < N → rowS M' x N = rowS M x N + (if x = t then most else 0) - (if x = s then most else 0)
set_option maxHeartbeats 8000000 in
set_option maxRecDepth 100000 in
theorem push_walk (nb mb xb B N n : Nat) (M : Nat → Nat → Int) (adj : Nat → List Nat) (vs : Nat → Value) (w : World) (s t : Nat) (h : NetAt nb mb xb B N n M adj vs w) (hN : N ≤ 1000) (hs : s < N) (ht : t < N) (hst : t ≠ s) (hz : NoneAt w) (hadj : ∀ i, i < N → ∀ u, u ∈ adj i → u < N) (hlen : ∀ i, (adj i).length < 1000000)
  (hpos : ∀ x y, 0 ≤ M x y) (hbnd : ∀ x y, M x y + M y x ≤ 1000000000) (hn : n + 2 * N < 10000000000) :
  Calls Tryd.prog 52 #[.pointer (some ⟨nb, 0, none⟩), .int .i64 s, .int .i64 t] w fun e w' =>
   (waysF M adj N s t = (-1, -1) ∧ e = .returned (.tuple #[.int .i64 0, .bool false]) ∧ Below w.heap.size w w') ∨
   (waysF M adj N s t ≠ (-1, -1) ∧ ∃ most M', e = .returned (.tuple #[.int .i64 most, .bool true]) ∧ Push M M' N s t most ∧ NetAt nb mb xb B N (n + 2 * N) M' adj vs w' ∧ NetKeep B w w') := by
 have HN := hid h
 have HZ := hid hz
 have HADJ := hid hadj
 have HLEN := hid hlen
 have HPOS := hid hpos
 have HBND := hid hbnd
 obtain ⟨⟨d, hT⟩, _⟩ := waysF_tree M adj N s hs hadj
 obtain ⟨way, hway⟩ : ∃ way, way = waysF M adj N s := ⟨_, rfl⟩
 obtain ⟨B1, hB1⟩ : ∃ B1, B1 = w.heap.size := ⟨_, rfl⟩
 rw [← hway] at hT ⊢
 rw [← hB1]
 have HBW := hid hB1
 have HWAY := hid hway
 clear hway hB1
 have HT := hid hT
 clear hT h hz hadj hlen hpos hbnd
 go_enter Tryd.func52, Tryd.ntmps52
 go_wp2_with (fail)
 refine (ways_walk nb mb xb B N n M adj vs w s HN.out hN hs HZ.out HADJ.out HLEN.out).mono ?_
 rintro e w1 ⟨rfl, hW, hB⟩
 rw [← HBW.out, ← HWAY.out] at hW
 rw [← HBW.out] at hB ⊢
 have HWY := Aside0.mk hW
 have HN1 := hid (HN.out.below (by rw [← HBW.out]; exact hB))
 have HZ1 := hid (HZ.out.below (by rw [← HBW.out]; exact hB))
 have HBL := Aside0.mk hB
 clear hW hB
 have q0 : w1.cell? ⟨nb, 0, none⟩ = some (.map (some mb)) := HN1.out.cells.1
 have z0 : w1.cell? ⟨0, 0, none⟩ = some (.int .i64 (-1)) := HZ1.out.1
 have z1 : w1.cell? ⟨0, 1, none⟩ = some (.int .i64 (-1)) := HZ1.out.2
 have k0 := (HWY.out.1 t ht).1
 have k1 := (HWY.out.1 t ht).2
 have t0 : (0 : Int) ≤ (t : Int) := by omega
 have t1 : (t : Int) < (N : Int) := by omega
 by_cases hw : way t = (-1, -1)
 ·rw [hw] at k0 k1
  have heq : ∀ w, (binOp .eql 137 (.agg #[.int .i64 (-1), .int .i64 (-1)]) (.agg #[.int .i64 (-1), .int .i64 (-1)])).run Tryd.prog w = .ok (.bool true) w := fun w => by rw [eqArc]; rfl
  have hgd := fun x y w => gdArc x y #[.int .i64 (-1), .int .i64 (-1)] #[.int .i64 (-1), .int .i64 (-1)] w
  go_wp2_with (fail)
  go_quiet (fail)
  go_wp2
  go_ret2
  exact .inl ⟨hw, rfl, HBL.out.trans ((pw_below_drewN (Below.refl w1.heap.size w1) nq).mono (Nat.le_of_lt HWY.out.2.2))⟩
 ·have hit0 : itP way t 0 = t := rfl
  obtain ⟨hp1, hp2, hp3, hp4, hp5⟩ := HT.out.next (t := t) (i := 0) ht hw hst
  rw [hit0] at hp2 hp3 hp5
  obtain ⟨p, hp⟩ : ∃ p, p = itP way t (0 + 1) := ⟨_, rfl⟩
  rw [← hp] at hp1 hp2 hp3 hp4 hp5
  rw [hp2] at k0 k1
  have hx : ¬ ((p : Int) = -1 ∧ (t : Int) = -1) := by omega
  have heq : ∀ w, (binOp .eql 137 (.agg #[.int .i64 p, .int .i64 t]) (.agg #[.int .i64 (-1), .int .i64 (-1)])).run Tryd.prog w = .ok (.bool false) w := fun w => by rw [eqArc, decide_eq_false hx]
  have hgd := fun x y w => gdArc x y #[.int .i64 p, .int .i64 t] #[.int .i64 (-1), .int .i64 (-1)] w
  have HW := hid hw
  have HP := hid hp
  have HP3 := hid hp3
  clear hx hw hp hp2 hp3 hp4 hp5 hit0
  go_wp2_with (fail)
  go_quiet (fail)
  obtain ⟨W3, hW3⟩ : ∃ W3, W3 = w1.drewN nq := ⟨_, rfl⟩
  have hb3 : Below w1.heap.size w1 W3 := by rw [hW3]; exact pw_below_drewN (Below.refl _ _) nq
  rw [← hW3]
  clear hW3 q0 z0 z1 k0 k1 heq hgd
  have HWY3 := Aside0.mk (HWY.out.below hb3)
  have HN3 := hid (HN1.out.below hb3)
  have HBL3 := Aside0.mk (HBL.out.trans (hb3.mono (Nat.le_of_lt HWY.out.2.2)))
  clear HN1 HZ1 HWY HBL hb3
  have q0 : W3.cell? ⟨nb, 0, none⟩ = some (.map (some mb)) := HN3.out.cells.1
  have k0 := (HWY3.out.1 t ht).1
  have k1 := (HWY3.out.1 t ht).2
  obtain ⟨hp2, _⟩ := (HT.out.next (t := t) (i := 0) ht HW.out hst).2
  rw [show itP way t 0 = t from rfl, ← HP.out] at hp2
  rw [hp2] at k0 k1
  clear hp2
  have hlook := HN3.out.room.lookN (u := p) (v := t) (by omega) (by omega)
  go_wp2_with (fail)
  go_quiet (fail)
  obtain ⟨W4, hW4⟩ : ∃ W4, W4 = W3.drewN nq := ⟨_, rfl⟩
  have hb4 : Below W3.heap.size W3 W4 := by rw [hW4]; exact pw_below_drewN (Below.refl _ _) nq
  rw [← hW4]
  clear hW4 q0 k0 k1 hlook
  have HWY4 := Aside0.mk (HWY3.out.below hb4)
  have HBL4 := Aside0.mk (HBL3.out.trans (hb4.mono (Nat.le_of_lt HWY3.out.2.2)))
  clear HN3 HWY3 HBL3 hb4
  have hm1 : 1 ≤ M p t := HP3.out
  have hm2 : M p t ≤ 1000000000 := by have := HBND.out p t; have := HPOS.out t p; omega
  obtain ⟨m0, hm0⟩ : ∃ m0, m0 = M p t := ⟨_, rfl⟩
  rw [← hm0] at hm1 hm2 ⊢
  clear hm0
  go_wp2_with (fail)
  go_loopg [9, 10] (d t) (fun kq v9 v10 w' => ∃ (i v : Nat) (m : Int), v9 = .int .i64 m ∧ v10 = .int .i64 v ∧ Aside0 (v = itP way t i) ∧ v < N ∧ Aside0 (way v ≠ (-1, -1)) ∧ d v ≤ kq ∧ 1 ≤ m ∧ m ≤ 1000000000 ∧ Aside0 (∀ j, j < i → m ≤ M (itP way t (j + 1)) (itP way t j)) ∧ Aside0 (WayAt B1 N way w') ∧ Aside0 (Below B1 w w'))
  case atStart => exact ⟨0, t, m0, rfl, rfl, ⟨rfl⟩, ht, ⟨HW.out⟩, Nat.le_refl _, hm1, hm2, ⟨fun j hj => absurd hj (by omega)⟩, HWY4, HBL4⟩
  case round =>
   clear HWY4 HBL4
   obtain ⟨i, v, m, rfl, rfl, HV, hv, HVW, hk, hm1, hm2, HLE, HWY, HBL⟩ := hrel
   by_cases hvs : v = s
   ·have d1 : ((v : Int) != (s : Int)) = false := by rw [bne_eq_false_iff_eq]; omega
    go_wp2_with (fail)
    clear d1
    have HL2 := hid (show ∀ j, itP way t j ≠ s → m ≤ M (itP way t (j + 1)) (itP way t j) from fun j hj => by
     rcases Nat.lt_or_ge j i with hji | hji
     ·exact HLE.out j hji
     ·have h := HT.out.stay (t := t) (k := i) (by rw [← HV.out]; exact hvs) (j - i)
      rw [show i + (j - i) = j by omega] at h
      exact absurd h hj)
    clear HLE HV HVW hk hvs
    have HNA := hid (HN.out.below (by rw [← HBW.out]; exact HBL.out))
    have HKP := hid (NetKeep.of (B := B) (by rw [← HBW.out]; exact HBL.out) HN.out.base)
    clear HBL
    have HAU := hid (show Aug M M N s t way d m t from ⟨HPOS.out, fun _ _ => rfl, fun _ _ _ _ => rfl, fun x _ => by split <;> omega⟩)
    go_loopg [11] (d t) (fun kq v11 w' => ∃ (i v n2 : Nat) (M2 : Nat → Nat → Int), v11 = .int .i64 v ∧ Aside0 (v = itP way t i) ∧ v < N ∧ Aside0 (way v ≠ (-1, -1)) ∧ d v ≤ kq ∧ n2 + 2 * d v ≤ n + 2 * d t ∧ Aside0 (Aug M M2 N s t way d m v) ∧ Aside0 (NetAt nb mb xb B N n2 M2 adj vs w') ∧ Aside0 (NetKeep B w w') ∧ Aside0 (WayAt B1 N way w'))
    case atStart => exact ⟨0, t, n, M, rfl, ⟨rfl⟩, ht, ⟨HW.out⟩, Nat.le_refl _, Nat.le_refl _, ⟨HAU.out⟩, ⟨HNA.out⟩, ⟨HKP.out⟩, HWY⟩
    case round =>
     clear HAU HNA HKP HWY
     obtain ⟨i, v, n2, M2, rfl, HV, hv, HVW, hk, hn2, HAU, HNA, HKP, HWY⟩ := hrel
     have hdt : d t ≤ N := by have := HT.out.2.2 t; omega
     by_cases hvs : v = s
     ·have d1 : ((v : Int) != (s : Int)) = false := by rw [bne_eq_false_iff_eq]; omega
      have HVS := hid hvs
      clear hvs
      go_wp2
      go_ret2
      refine .inr ⟨HW.out, m, M2, rfl, ⟨hm1, HAU.out.pos, HAU.out.sym, fun x hx => ?_⟩, HNA.out.mono (by omega), HKP.out⟩
      rw [HAU.out.row x hx, HVS.out]
     ·have d1 : ((v : Int) != (s : Int)) = true := bne_iff_ne.2 (by omega)
      obtain ⟨hp1, hp2, hp3, hp4, hp5⟩ := HT.out.next (t := t) (i := i) (by rw [← HV.out]; exact hv) (by rw [← HV.out]; exact HVW.out) (by rw [← HV.out]; exact hvs)
      have hml := HL2.out i (by rw [← HV.out]; exact hvs)
      have k0 := (HWY.out.1 v hv).1
      have k1 := (HWY.out.1 v hv).2
      rw [← HV.out] at hp2 hp3 hp5 hml
      obtain ⟨p1, hp⟩ : ∃ p1, p1 = itP way t (i + 1) := ⟨_, rfl⟩
      rw [← hp] at hp1 hp2 hp3 hp4 hp5 hml
      rw [hp2] at k0 k1
      have s0 : (0 : Int) ≤ (v : Int) := by omega
      have s1 : (v : Int) < (N : Int) := by omega
      have HP4 := hid hp4
      have HPI := hid hp
      have HP5 := hid hp5
      have HML := hid hml
      have HVS := hid hvs
      clear hp hp4 hp2 hp3 hvs hml hp5
      go_wp2_with (fail)
      obtain ⟨gb, hgb⟩ : ∃ gb, gb = wr.heap.size := ⟨_, rfl⟩
      obtain ⟨W5, hW5⟩ : ∃ W5, W5 = wr.alloc (.cells #[.int .i64 p1, .int .i64 v] 137) := ⟨_, rfl⟩
      have hb5 : Below wr.heap.size wr W5 := by rw [hW5]; exact below_alloc (Below.refl _ _) _
      have HBX5 := hid (show W5.heap[gb]? = some (.cells #[.int .i64 p1, .int .i64 v] 137 (0, 0)) by rw [hW5, hgb]; exact blk_new _ _)
      have hgbm : gb ≠ mb := by rw [hgb]; exact Ne.symm (Nat.ne_of_lt HNA.out.lt.2.1)
      rw [← hW5, ← hgb]
      clear hW5 hgb k0 k1
      have HNA5 := hid (HNA.out.below hb5)
      have HKP5 := hid (HKP.out.trans (NetKeep.of hb5 HNA.out.base))
      have HWY5 := Aside0.mk (HWY.out.below hb5)
      clear HNA HKP HWY hb5
      have HRD := hid (HNA5.out.below (below_drew1 (Below.refl W5.heap.size W5)))
      have hMp : M2 p1 v = M p1 v := HAU.out.old p1 v HP5.out (Nat.le_refl _)
      have hx2 : m ≤ M2 p1 v ∧ M2 p1 v ≤ 1000000000 := by
       have h1 := HML.out; have h2 := HBND.out p1 v; have h3 := HPOS.out v p1
       omega
      have HX3 := hid (show 0 ≤ upd M2 p1 v (M2 p1 v - m) v p1 ∧ upd M2 p1 v (M2 p1 v - m) v p1 + m ≤ 1000000000 by
       have hne : ¬ (v = p1) := fun e => by have := HP5.out; rw [e] at this; omega
       have e1 : upd M2 p1 v (M2 p1 v - m) v p1 = M2 v p1 := by unfold upd; rw [if_neg (by omega)]
       rw [e1]
       have h1 := HAU.out.sym p1 v; have h2 := HBND.out p1 v; have h3 := HAU.out.pos v p1
       omega)
      clear hMp
      obtain ⟨x2, hx2e⟩ : ∃ x2, x2 = M2 p1 v := ⟨_, rfl⟩
      have hlook := HRD.out.room.look (u := p1) (v := v) (by omega) (by omega)
      unfold arcV at hlook
      rw [← hx2e] at hlook hx2 HX3
      have HX2 := hid hx2e
      clear hx2e
      obtain ⟨M3, hM3⟩ : ∃ M3, M3 = upd M2 p1 v (x2 - m) := ⟨_, rfl⟩
      obtain ⟨v4, st4, w6, w7, hE, hS, hR, hg, hz1, hz2⟩ := HRD.out.room.entry (by unfold maxLen; omega) (u := p1) (v := v) (x := x2 - m) (by omega) (by omega) (wfN (by omega) (by omega))
      obtain ⟨hM6, hg6⟩ := HRD.out.room.entryMid (by unfold maxLen; omega) (u := p1) (v := v) (by omega) (by omega) hE
      have hl6 := hM6.look (u := p1) (v := v) (by omega) (by omega)
      unfold arcV at hE hl6
      rw [← HX2.out] at hl6
      replace hS : (Instr.entryStore 143 (.map (some mb)) (.int .i64 st4) (.int .i64 (x2 - m))).run Tryd.prog w6 = .ok () w7 := hS
      have hwr : IntKind.i64.wrap (x2 - m) = x2 - m := IntWalk.i64_in _ (by omega)
      have q0 : W5.cell? ⟨nb, 0, none⟩ = some (.map (some mb)) := HNA5.out.cells.1
      have HS4 := hid (show W5.drew.cell? ⟨nb, 0, none⟩ = some (.map (some mb)) ∧ W5.drew.cell? ⟨gb, 0, none⟩ = some (.int .i64 p1) ∧ W5.drew.cell? ⟨gb, 1, none⟩ = some (.int .i64 v) ∧ (Instr.lookup 143 (.map (some mb)) (.agg #[.int .i64 (p1 : Int), .int .i64 (v : Int)]) false).run Tryd.prog W5.drew = .ok (.int .i64 x2) W5.drew from ⟨q0, by show W5.cell? _ = _; simp [World.cell?, HBX5.out], by show W5.cell? _ = _; simp [World.cell?, HBX5.out], hlook⟩)
      have HS6 := hid (show w6.cell? ⟨nb, 0, none⟩ = some (.map (some mb)) ∧ w6.cell? ⟨gb, 0, none⟩ = some (.int .i64 p1) ∧ w6.cell? ⟨gb, 1, none⟩ = some (.int .i64 v) ∧ (Instr.lookup 143 (.map (some mb)) (.agg #[.int .i64 (p1 : Int), .int .i64 (v : Int)]) false).run Tryd.prog w6 = .ok (.int .i64 x2) w6 from ⟨grown_cell hg6 HS4.out.1 HNA5.out.nbm, grown_cell hg6 HS4.out.2.1 hgbm, grown_cell hg6 HS4.out.2.2.1 hgbm, hl6⟩)
      clear hM6 hg6 hl6
      rw [← hM3] at hR HX3
      have hM3v : M3 p1 v = x2 - m := by rw [hM3]; unfold upd; rw [if_pos ⟨rfl, rfl⟩]
      have HM3V := hid hM3v
      rw [HX2.out] at hM3
      have HM3 := hid hM3
      have HR := hid hR
      have HG := hid hg
      have HZ2 := hid hz2
      clear hM3 hM3v hR hg hlook hz1 hz2 q0
      refine start_ (n := 11) (S := fun w' => w'.cell? ⟨nb, 0, none⟩ = some (.map (some mb)) ∧ w'.cell? ⟨gb, 0, none⟩ = some (.int .i64 p1) ∧ w'.cell? ⟨gb, 1, none⟩ = some (.int .i64 v) ∧ (Instr.lookup 143 (.map (some mb)) (.agg #[.int .i64 (p1 : Int), .int .i64 (v : Int)]) false).run Tryd.prog w' = .ok (.int .i64 x2) w') (ds := [10]) #[false, false, false, false, false, false, false, false, false, false, false] (by kernel_rfl) rfl rfl HS4.out (fun hHeld => ?_)
      refine pure_ (i := 0) (N := some 64) (v := ?_) (a' := ?_) #[true, false, false, false, false, false, false, false, false, false, false] rfl rfl (by kernel_rfl) (fun _ _ _ h => h) (Or.inl ⟨by rfl, ?_⟩) ?_ ?_
      rotate_left
      ·intro w'
       go_simp
       with_reducible rfl
      rotate_left
      ·simp only [Act.put, List.setIfInBounds_toArray, List.set_cons_zero, List.set_cons_succ, i64_w, i32_w]
       rfl
      refine pure_ (i := 1) (N := some 65) (v := ?_) (a' := ?_) #[true, true, false, false, false, false, false, false, false, false, false] rfl rfl (by kernel_rfl) (fun _ _ _ h => h) (Or.inl ⟨by rfl, ?_⟩) ?_ ?_
      rotate_left
      ·intro w'
       go_simp
       with_reducible rfl
      rotate_left
      ·simp only [Act.put, List.setIfInBounds_toArray, List.set_cons_zero, List.set_cons_succ, i64_w, i32_w]
       rfl
      refine pure_ (i := 2) (N := some 66) (v := ?_) (a' := ?_) #[true, true, true, false, false, false, false, false, false, false, false] rfl rfl (by kernel_rfl) (fun _ _ _ h => h) (Or.inl ⟨by rfl, ?_⟩) ?_ ?_
      rotate_left
      ·intro w'
       go_simp
       with_reducible rfl
      rotate_left
      ·simp only [Act.put, List.setIfInBounds_toArray, List.set_cons_zero, List.set_cons_succ, i64_w, i32_w]
       rfl
      refine take_ (i := 3) (N := some 67) (v := ?_) (a' := ?_) #[true, true, true, true, false, false, false, false, false, false, false] rfl rfl (by kernel_rfl) (fun _ _ _ h => h) (Or.inl ⟨by rfl, ?_⟩) hHeld ?_ ?_
      rotate_left
      ·rintro w' ⟨s0, s1, s2, s3⟩
       go_simp
       with_reducible rfl
      rotate_left
      ·simp only [Act.put, List.setIfInBounds_toArray, List.set_cons_zero, List.set_cons_succ, i64_w, i32_w]
       rfl
      refine take_ (i := 4) (N := some 68) (v := ?_) (a' := ?_) #[true, true, true, true, true, false, false, false, false, false, false] rfl rfl (by kernel_rfl) (fun _ _ _ h => h) (Or.inl ⟨by rfl, ?_⟩) hHeld ?_ ?_
      rotate_left
      ·rintro w' ⟨s0, s1, s2, s3⟩
       go_simp
       with_reducible rfl
      rotate_left
      ·simp only [Act.put, List.setIfInBounds_toArray, List.set_cons_zero, List.set_cons_succ, i64_w, i32_w]
       rfl
      refine take_ (i := 5) (N := some 69) (v := ?_) (a' := ?_) #[true, true, true, true, true, true, false, false, false, false, false] rfl rfl (by kernel_rfl) (fun _ _ _ h => h) (Or.inl ⟨by rfl, ?_⟩) hHeld ?_ ?_
      rotate_left
      ·rintro w' ⟨s0, s1, s2, s3⟩
       go_simp
       with_reducible rfl
      rotate_left
      ·simp only [Act.put, List.setIfInBounds_toArray, List.set_cons_zero, List.set_cons_succ, i64_w, i32_w]
       rfl
      refine pure_ (i := 6) (N := some 70) (v := ?_) (a' := ?_) #[true, true, true, true, true, true, true, false, false, false, false] rfl rfl (by kernel_rfl) (fun _ _ _ h => h) (Or.inl ⟨by rfl, ?_⟩) ?_ ?_
      rotate_left
      ·intro w'
       go_simp
       with_reducible rfl
      rotate_left
      ·simp only [Act.put, List.setIfInBounds_toArray, List.set_cons_zero, List.set_cons_succ, i64_w, i32_w]
       rfl
      refine pure_ (i := 7) (N := some 71) (v := ?_) (a' := ?_) #[true, true, true, true, true, true, true, true, false, false, false] rfl rfl (by kernel_rfl) (fun _ _ _ h => h) (Or.inl ⟨by rfl, ?_⟩) ?_ ?_
      rotate_left
      ·intro w'
       go_simp
       with_reducible rfl
      rotate_left
      ·simp only [Act.put, List.setIfInBounds_toArray, List.set_cons_zero, List.set_cons_succ, i64_w, i32_w]
       rfl
      refine one_ (i := 8) (N := some 72) #[true, true, true, true, true, true, true, true, true, false, false] rfl rfl (by kernel_rfl) (by decide) (fun K hK => ?_)
      refine value_ (w1 := ?_) (v := ?_) (by rfl) rfl ?_ ?_
      rotate_left 2
      ·go_simp
       first | (refine ⟨?_, ?_⟩ <;> rfl) | rfl
      refine hK.out _ _ HS6.out (fun hHeld => ?_)
      clear hK K
      refine norm_ (a' := ?_) ?_ ?_
      rotate_left
      ·show Act.put _ (some 72) _ = _
       simp only [Act.put, List.setIfInBounds_toArray, List.set_cons_zero, List.set_cons_succ, i64_w, i32_w]
       rfl
      refine pure_ (i := 9) (N := some 73) (v := ?_) (a' := ?_) #[true, true, true, true, true, true, true, true, true, true, false] rfl rfl (by kernel_rfl) (fun _ _ _ h => h) (Or.inl ⟨by rfl, ?_⟩) ?_ ?_
      rotate_left
      ·intro w'
       go_simp
       with_reducible rfl
      rotate_left
      ·simp only [Act.put, List.setIfInBounds_toArray, List.set_cons_zero, List.set_cons_succ, i64_w, i32_w]
       rfl
      refine last_ (i := 10) (N := none) #[true, true, true, true, true, true, true, true, true, true, true] rfl rfl (by kernel_rfl) (by decide) (fun K hK => ?_)
      refine skip_ (w1 := ?_) (by rfl) rfl ?_ ?_
      rotate_left
      ·go_simp
       rfl
      refine hK.out _ _ ?_
      clear hK K
      refine done_ (by kernel_rfl) ?_
      obtain ⟨HNA7a, HKP7a⟩ := NetAt.put HRD.out HR.out HG.out
      have hB1w : B1 < W5.heap.size := HWY5.out.2.2
      have hB1m : B1 ≠ mb := by have := HN.out.lt; have := HBW.out; omega
      have HWY7 := Aside0.mk (HWY5.out.heap (w1 := w7) (HG.out.block B1 hB1w (fun e => hB1m (Option.some.inj e))) (by rw [HZ2.out]; exact hB1w))
      have HBX7 := hid (show w7.heap[gb]? = some (.cells #[.int .i64 p1, .int .i64 v] 137 (0, 0)) from (HG.out.block gb (lt_of_some HBX5.out) (fun e => hgbm (Option.some.inj e))).trans HBX5.out)
      have HNA7 := hid HNA7a
      have HKP7 := hid ((HKP5.out.trans (NetKeep.of (below_drew1 (Below.refl W5.heap.size W5)) HNA5.out.base)).trans HKP7a)
      clear HNA7a HKP7a hB1w hB1m HR HG HZ2 HS4 hE hS HBX5 HNA5 HKP5 HWY5 HRD
      have q0 : w7.cell? ⟨nb, 0, none⟩ = some (.map (some mb)) := HNA7.out.cells.1
      have b0 : w7.cell? ⟨gb, 0, none⟩ = some (.int .i64 p1) := by simp [World.cell?, HBX7.out]
      have b1 : w7.cell? ⟨gb, 1, none⟩ = some (.int .i64 v) := by simp [World.cell?, HBX7.out]
      have hlook := HNA7.out.room.lookN (u := p1) (v := v) (by omega) (by omega)
      rw [HM3V.out] at hlook
      by_cases hy : x2 - m = 0
      ·have t2 : (x2 - m == 0) = true := beq_iff_eq.2 hy
       have HY := hid hy
       clear hy
       go_wp2_with (fail)
       go_quiet (fail)
       obtain ⟨W8, hW8⟩ : ∃ W8, W8 = w7.drewN nq := ⟨_, rfl⟩
       have hb8 : Below w7.heap.size w7 W8 := by rw [hW8]; exact pw_below_drewN (Below.refl _ _) nq
       rw [← hW8]
       clear hW8 q0 b0 b1 hlook
       have HNA8 := hid (HNA7.out.below hb8)
       have HKP8 := hid (HKP7.out.trans (NetKeep.of hb8 HNA7.out.base))
       have HWY8 := Aside0.mk (HWY7.out.below hb8)
       have HBX8 := hid (show W8.heap[gb]? = some (.cells #[.int .i64 p1, .int .i64 v] 137 (0, 0)) from (hb8.block gb (lt_of_some HBX7.out)).trans HBX7.out)
       clear HNA7 HKP7 HWY7 HBX7 hb8
       have q0 : W8.cell? ⟨nb, 0, none⟩ = some (.map (some mb)) := HNA8.out.cells.1
       have HRE := hid (HNA8.out.below (below_drew1 (Below.refl W8.heap.size W8)))
       obtain ⟨W9, hD, hR, hg⟩ := HRE.out.room.del (u := p1) (v := v) (by omega) (by omega) 0
       unfold arcV at hD
       have hMM : upd M3 p1 v 0 = M3 := by
        funext a b
        unfold upd
        split
        ·rename_i h; rw [h.1, h.2, HM3V.out, HY.out]
        ·rfl
       rw [hMM] at hR
       have HS4 := hid (show W8.drew.cell? ⟨nb, 0, none⟩ = some (.map (some mb)) ∧ W8.drew.cell? ⟨gb, 0, none⟩ = some (.int .i64 p1) ∧ W8.drew.cell? ⟨gb, 1, none⟩ = some (.int .i64 v) from ⟨q0, by show W8.cell? _ = _; simp [World.cell?, HBX8.out], by show W8.cell? _ = _; simp [World.cell?, HBX8.out]⟩)
       have HR := hid hR
       have HG := hid hg
       have hB1w : B1 < W8.heap.size := HWY8.out.2.2
       have hB1m : B1 ≠ mb := by have := HN.out.lt; have := HBW.out; omega
       have hhe := HG.out.block B1 hB1w (fun e => hB1m (Option.some.inj e))
       have HWY9 := Aside0.mk (HWY8.out.heap (w1 := W9) hhe (lt_of_some (hhe.trans (Array.getElem?_eq_getElem hB1w))))
       have HBX9 := hid (show W9.heap[gb]? = some (.cells #[.int .i64 p1, .int .i64 v] 137 (0, 0)) from (HG.out.block gb (lt_of_some HBX8.out) (fun e => hgbm (Option.some.inj e))).trans HBX8.out)
       clear hR hg hMM q0 hhe hB1w hB1m
       go_wp2_with (fail)
       refine start_ (n := 6) (S := fun w' => w'.cell? ⟨nb, 0, none⟩ = some (.map (some mb)) ∧ w'.cell? ⟨gb, 0, none⟩ = some (.int .i64 p1) ∧ w'.cell? ⟨gb, 1, none⟩ = some (.int .i64 v)) (ds := [5]) #[false, false, false, false, false, false] (by kernel_rfl) rfl rfl HS4.out (fun hHeld => ?_)
       refine pure_ (i := 0) (N := some 81) (v := ?_) (a' := ?_) #[true, false, false, false, false, false] rfl rfl (by kernel_rfl) (fun _ _ _ h => h) (Or.inl ⟨by rfl, ?_⟩) ?_ ?_
       rotate_left
       ·intro w'
        go_simp
        with_reducible rfl
       rotate_left
       ·simp only [Act.put, List.setIfInBounds_toArray, List.set_cons_zero, List.set_cons_succ, i64_w, i32_w]
        rfl
       refine pure_ (i := 1) (N := some 82) (v := ?_) (a' := ?_) #[true, true, false, false, false, false] rfl rfl (by kernel_rfl) (fun _ _ _ h => h) (Or.inl ⟨by rfl, ?_⟩) ?_ ?_
       rotate_left
       ·intro w'
        go_simp
        with_reducible rfl
       rotate_left
       ·simp only [Act.put, List.setIfInBounds_toArray, List.set_cons_zero, List.set_cons_succ, i64_w, i32_w]
        rfl
       refine pure_ (i := 2) (N := some 83) (v := ?_) (a' := ?_) #[true, true, true, false, false, false] rfl rfl (by kernel_rfl) (fun _ _ _ h => h) (Or.inl ⟨by rfl, ?_⟩) ?_ ?_
       rotate_left
       ·intro w'
        go_simp
        with_reducible rfl
       rotate_left
       ·simp only [Act.put, List.setIfInBounds_toArray, List.set_cons_zero, List.set_cons_succ, i64_w, i32_w]
        rfl
       refine take_ (i := 3) (N := some 84) (v := ?_) (a' := ?_) #[true, true, true, true, false, false] rfl rfl (by kernel_rfl) (fun _ _ _ h => h) (Or.inl ⟨by rfl, ?_⟩) hHeld ?_ ?_
       rotate_left
       ·rintro w' ⟨s0, s1, s2⟩
        go_simp
        with_reducible rfl
       rotate_left
       ·simp only [Act.put, List.setIfInBounds_toArray, List.set_cons_zero, List.set_cons_succ, i64_w, i32_w]
        rfl
       refine take_ (i := 4) (N := some 85) (v := ?_) (a' := ?_) #[true, true, true, true, true, false] rfl rfl (by kernel_rfl) (fun _ _ _ h => h) (Or.inl ⟨by rfl, ?_⟩) hHeld ?_ ?_
       rotate_left
       ·rintro w' ⟨s0, s1, s2⟩
        go_simp
        with_reducible rfl
       rotate_left
       ·simp only [Act.put, List.setIfInBounds_toArray, List.set_cons_zero, List.set_cons_succ, i64_w, i32_w]
        rfl
       refine last_ (i := 5) (N := none) #[true, true, true, true, true, true] rfl rfl (by kernel_rfl) (by decide) (fun K hK => ?_)
       refine value_ (w1 := ?_) (v := ?_) (by rfl) rfl ?_ ?_
       rotate_left 2
       ·go_simp
        first | (refine ⟨?_, ?_⟩ <;> rfl) | rfl
       refine hK.out _ _ ?_
       clear hK K
       refine done_ (by kernel_rfl) ?_
       obtain ⟨HNA9a, HKP9a⟩ := NetAt.put HRE.out HR.out HG.out
       have HNA9 := hid HNA9a
       have HKP9 := hid ((HKP8.out.trans (NetKeep.of (below_drew1 (Below.refl W8.heap.size W8)) HNA8.out.base)).trans HKP9a)
       clear HNA9a HKP9a HNA8 HKP8 HWY8 HBX8 HR HG HRE hD HS4
       go_wp2_with (fail)
       have q0 : W9.cell? ⟨nb, 0, none⟩ = some (.map (some mb)) := HNA9.out.cells.1
       have HRD := hid (HNA9.out.below (below_drew1 (Below.refl W9.heap.size W9)))
       obtain ⟨x3, hx3⟩ : ∃ x3, x3 = M3 v p1 := ⟨_, rfl⟩
       have hx4 : 0 ≤ x3 ∧ x3 + m ≤ 1000000000 := by rw [hx3]; exact HX3.out
       have hlook := HRD.out.room.look (u := v) (v := p1) (by omega) (by omega)
       unfold arcV at hlook
       rw [← hx3] at hlook
       have HX := hid hx3
       clear hx3
       obtain ⟨v5, st5, w10, w11, hE, hS, hR, hg, hz1, hz2⟩ := HRD.out.room.entry (by unfold maxLen; omega) (u := v) (v := p1) (x := x3 + m) (by omega) (by omega) (wfN (by omega) (by omega))
       obtain ⟨hM6, hg6⟩ := HRD.out.room.entryMid (by unfold maxLen; omega) (u := v) (v := p1) (by omega) (by omega) hE
       have hl6 := hM6.look (u := v) (v := p1) (by omega) (by omega)
       unfold arcV at hE hl6
       rw [← HX.out] at hl6
       replace hS : (Instr.entryStore 143 (.map (some mb)) (.int .i64 st5) (.int .i64 (x3 + m))).run Tryd.prog w10 = .ok () w11 := hS
       have hwr : IntKind.i64.wrap (x3 + m) = x3 + m := IntWalk.i64_in _ (by omega)
       have HS4 := hid (show W9.drew.cell? ⟨nb, 0, none⟩ = some (.map (some mb)) ∧ W9.drew.cell? ⟨gb, 0, none⟩ = some (.int .i64 p1) ∧ W9.drew.cell? ⟨gb, 1, none⟩ = some (.int .i64 v) ∧ (Instr.lookup 143 (.map (some mb)) (.agg #[.int .i64 (v : Int), .int .i64 (p1 : Int)]) false).run Tryd.prog W9.drew = .ok (.int .i64 x3) W9.drew from ⟨q0, by show W9.cell? _ = _; simp [World.cell?, HBX9.out], by show W9.cell? _ = _; simp [World.cell?, HBX9.out], hlook⟩)
       have HS6 := hid (show w10.cell? ⟨nb, 0, none⟩ = some (.map (some mb)) ∧ w10.cell? ⟨gb, 0, none⟩ = some (.int .i64 p1) ∧ w10.cell? ⟨gb, 1, none⟩ = some (.int .i64 v) ∧ (Instr.lookup 143 (.map (some mb)) (.agg #[.int .i64 (v : Int), .int .i64 (p1 : Int)]) false).run Tryd.prog w10 = .ok (.int .i64 x3) w10 from ⟨grown_cell hg6 HS4.out.1 HNA9.out.nbm, grown_cell hg6 HS4.out.2.1 hgbm, grown_cell hg6 HS4.out.2.2.1 hgbm, hl6⟩)
       clear hM6 hg6 hl6
       have HR := hid hR
       have HG := hid hg
       have HZ2 := hid hz2
       clear hR hg hlook hz1 hz2 q0
       refine start_ (n := 15) (S := fun w' => w'.cell? ⟨nb, 0, none⟩ = some (.map (some mb)) ∧ w'.cell? ⟨gb, 0, none⟩ = some (.int .i64 p1) ∧ w'.cell? ⟨gb, 1, none⟩ = some (.int .i64 v) ∧ (Instr.lookup 143 (.map (some mb)) (.agg #[.int .i64 (v : Int), .int .i64 (p1 : Int)]) false).run Tryd.prog w' = .ok (.int .i64 x3) w') (ds := [14]) #[false, false, false, false, false, false, false, false, false, false, false, false, false, false, false] (by kernel_rfl) rfl rfl HS4.out (fun hHeld => ?_)
       refine pure_ (i := 0) (N := some 86) (v := ?_) (a' := ?_) #[true, false, false, false, false, false, false, false, false, false, false, false, false, false, false] rfl rfl (by kernel_rfl) (fun _ _ _ h => h) (Or.inl ⟨by rfl, ?_⟩) ?_ ?_
       rotate_left
       ·intro w'
        go_simp
        with_reducible rfl
       rotate_left
       ·simp only [Act.put, List.setIfInBounds_toArray, List.set_cons_zero, List.set_cons_succ, i64_w, i32_w]
        rfl
       refine pure_ (i := 1) (N := some 87) (v := ?_) (a' := ?_) #[true, true, false, false, false, false, false, false, false, false, false, false, false, false, false] rfl rfl (by kernel_rfl) (fun _ _ _ h => h) (Or.inl ⟨by rfl, ?_⟩) ?_ ?_
       rotate_left
       ·intro w'
        go_simp
        with_reducible rfl
       rotate_left
       ·simp only [Act.put, List.setIfInBounds_toArray, List.set_cons_zero, List.set_cons_succ, i64_w, i32_w]
        rfl
       refine pure_ (i := 2) (N := some 88) (v := ?_) (a' := ?_) #[true, true, true, false, false, false, false, false, false, false, false, false, false, false, false] rfl rfl (by kernel_rfl) (fun _ _ _ h => h) (Or.inl ⟨by rfl, ?_⟩) ?_ ?_
       rotate_left
       ·intro w'
        go_simp
        with_reducible rfl
       rotate_left
       ·simp only [Act.put, List.setIfInBounds_toArray, List.set_cons_zero, List.set_cons_succ, i64_w, i32_w]
        rfl
       refine take_ (i := 3) (N := some 89) (v := ?_) (a' := ?_) #[true, true, true, true, false, false, false, false, false, false, false, false, false, false, false] rfl rfl (by kernel_rfl) (fun _ _ _ h => h) (Or.inl ⟨by rfl, ?_⟩) hHeld ?_ ?_
       rotate_left
       ·rintro w' ⟨s0, s1, s2, s3⟩
        go_simp
        with_reducible rfl
       rotate_left
       ·simp only [Act.put, List.setIfInBounds_toArray, List.set_cons_zero, List.set_cons_succ, i64_w, i32_w]
        rfl
       refine pure_ (i := 4) (N := some 90) (v := ?_) (a' := ?_) #[true, true, true, true, true, false, false, false, false, false, false, false, false, false, false] rfl rfl (by kernel_rfl) (fun _ _ _ h => h) (Or.inl ⟨by rfl, ?_⟩) ?_ ?_
       rotate_left
       ·intro w'
        go_simp
        with_reducible rfl
       rotate_left
       ·simp only [Act.put, List.setIfInBounds_toArray, List.set_cons_zero, List.set_cons_succ, i64_w, i32_w]
        rfl
       refine take_ (i := 5) (N := some 91) (v := ?_) (a' := ?_) #[true, true, true, true, true, true, false, false, false, false, false, false, false, false, false] rfl rfl (by kernel_rfl) (fun _ _ _ h => h) (Or.inl ⟨by rfl, ?_⟩) hHeld ?_ ?_
       rotate_left
       ·rintro w' ⟨s0, s1, s2, s3⟩
        go_simp
        with_reducible rfl
       rotate_left
       ·simp only [Act.put, List.setIfInBounds_toArray, List.set_cons_zero, List.set_cons_succ, i64_w, i32_w]
        rfl
       refine pure_ (i := 6) (N := some 92) (v := ?_) (a' := ?_) #[true, true, true, true, true, true, true, false, false, false, false, false, false, false, false] rfl rfl (by kernel_rfl) (fun _ _ _ h => h) (Or.inl ⟨by rfl, ?_⟩) ?_ ?_
       rotate_left
       ·intro w'
        go_simp
        with_reducible rfl
       rotate_left
       ·simp only [Act.put, List.setIfInBounds_toArray, List.set_cons_zero, List.set_cons_succ, i64_w, i32_w]
        rfl
       refine take_ (i := 7) (N := some 93) (v := ?_) (a' := ?_) #[true, true, true, true, true, true, true, true, false, false, false, false, false, false, false] rfl rfl (by kernel_rfl) (fun _ _ _ h => h) (Or.inl ⟨by rfl, ?_⟩) hHeld ?_ ?_
       rotate_left
       ·rintro w' ⟨s0, s1, s2, s3⟩
        go_simp
        with_reducible rfl
       rotate_left
       ·simp only [Act.put, List.setIfInBounds_toArray, List.set_cons_zero, List.set_cons_succ, i64_w, i32_w]
        rfl
       refine pure_ (i := 8) (N := some 94) (v := ?_) (a' := ?_) #[true, true, true, true, true, true, true, true, true, false, false, false, false, false, false] rfl rfl (by kernel_rfl) (fun _ _ _ h => h) (Or.inl ⟨by rfl, ?_⟩) ?_ ?_
       rotate_left
       ·intro w'
        go_simp
        with_reducible rfl
       rotate_left
       ·simp only [Act.put, List.setIfInBounds_toArray, List.set_cons_zero, List.set_cons_succ, i64_w, i32_w]
        rfl
       refine take_ (i := 9) (N := some 95) (v := ?_) (a' := ?_) #[true, true, true, true, true, true, true, true, true, true, false, false, false, false, false] rfl rfl (by kernel_rfl) (fun _ _ _ h => h) (Or.inl ⟨by rfl, ?_⟩) hHeld ?_ ?_
       rotate_left
       ·rintro w' ⟨s0, s1, s2, s3⟩
        go_simp
        with_reducible rfl
       rotate_left
       ·simp only [Act.put, List.setIfInBounds_toArray, List.set_cons_zero, List.set_cons_succ, i64_w, i32_w]
        rfl
       refine pure_ (i := 10) (N := some 96) (v := ?_) (a' := ?_) #[true, true, true, true, true, true, true, true, true, true, true, false, false, false, false] rfl rfl (by kernel_rfl) (fun _ _ _ h => h) (Or.inl ⟨by rfl, ?_⟩) ?_ ?_
       rotate_left
       ·intro w'
        go_simp
        with_reducible rfl
       rotate_left
       ·simp only [Act.put, List.setIfInBounds_toArray, List.set_cons_zero, List.set_cons_succ, i64_w, i32_w]
        rfl
       refine pure_ (i := 11) (N := some 97) (v := ?_) (a' := ?_) #[true, true, true, true, true, true, true, true, true, true, true, true, false, false, false] rfl rfl (by kernel_rfl) (fun _ _ _ h => h) (Or.inl ⟨by rfl, ?_⟩) ?_ ?_
       rotate_left
       ·intro w'
        go_simp
        with_reducible rfl
       rotate_left
       ·simp only [Act.put, List.setIfInBounds_toArray, List.set_cons_zero, List.set_cons_succ, i64_w, i32_w]
        rfl
       refine one_ (i := 12) (N := some 98) #[true, true, true, true, true, true, true, true, true, true, true, true, true, false, false] rfl rfl (by kernel_rfl) (by decide) (fun K hK => ?_)
       refine value_ (w1 := ?_) (v := ?_) (by rfl) rfl ?_ ?_
       rotate_left 2
       ·go_simp
        first | (refine ⟨?_, ?_⟩ <;> rfl) | rfl
       refine hK.out _ _ HS6.out (fun hHeld => ?_)
       clear hK K
       refine norm_ (a' := ?_) ?_ ?_
       rotate_left
       ·show Act.put _ (some 98) _ = _
        simp only [Act.put, List.setIfInBounds_toArray, List.set_cons_zero, List.set_cons_succ, i64_w, i32_w]
        rfl
       refine pure_ (i := 13) (N := some 99) (v := ?_) (a' := ?_) #[true, true, true, true, true, true, true, true, true, true, true, true, true, true, false] rfl rfl (by kernel_rfl) (fun _ _ _ h => h) (Or.inl ⟨by rfl, ?_⟩) ?_ ?_
       rotate_left
       ·intro w'
        go_simp
        with_reducible rfl
       rotate_left
       ·simp only [Act.put, List.setIfInBounds_toArray, List.set_cons_zero, List.set_cons_succ, i64_w, i32_w]
        rfl
       refine last_ (i := 14) (N := none) #[true, true, true, true, true, true, true, true, true, true, true, true, true, true, true] rfl rfl (by kernel_rfl) (by decide) (fun K hK => ?_)
       refine skip_ (w1 := ?_) (by rfl) rfl ?_ ?_
       rotate_left
       ·go_simp
        rfl
       refine hK.out _ _ ?_
       clear hK K
       refine done_ (by kernel_rfl) ?_
       obtain ⟨HNA11, HKP11⟩ := NetAt.put HRD.out HR.out HG.out
       have hB1w : B1 < W9.heap.size := HWY9.out.2.2
       have hB1m : B1 ≠ mb := by have := HN.out.lt; have := HBW.out; omega
       have HWYB := Aside0.mk (HWY9.out.heap (w1 := w11) (HG.out.block B1 hB1w (fun e => hB1m (Option.some.inj e))) (by rw [HZ2.out]; exact hB1w))
       have HNB := hid HNA11
       have HKB := hid ((HKP9.out.trans (NetKeep.of (below_drew1 (Below.refl W9.heap.size W9)) HNA9.out.base)).trans HKP11)
       clear HNA11 HKP11 hB1w hB1m HR HG HZ2 HS4 hE hS
       have k0 := (HWYB.out.1 v hv).1
       have k1 := (HWYB.out.1 v hv).2
       obtain ⟨hp2, _⟩ := (HT.out.next (t := t) (i := i) (by rw [← HV.out]; exact hv) (by rw [← HV.out]; exact HVW.out) (by rw [← HV.out]; exact HVS.out)).2
       rw [← HV.out, ← HPI.out] at hp2
       rw [hp2] at k0 k1
       clear hp2
       go_wp2
       go_roundg (d p1)
       case rel =>
        refine ⟨i + 1, p1, n2 + 1 + 1, upd M3 v p1 (x3 + m), rfl, ⟨HPI.out⟩, hp1, ⟨HP4.out⟩, Nat.le_refl _, by have := HP5.out; omega, ⟨?_⟩, ⟨HNB.out⟩, ⟨HKB.out⟩, HWYB⟩
        have h := HAU.out.step hv hp1 HP5.out (by omega) HML.out
        rw [← HM3.out, ← HX.out] at h
        exact h
       case measure => have := HP5.out; omega
      ·have t2 : (x2 - m == 0) = false := by rw [beq_eq_false_iff_ne]; exact hy
       clear hy
       go_wp2_with (fail)
       go_quiet (fail)
       obtain ⟨W9, hW9⟩ : ∃ W9, W9 = w7.drewN nq := ⟨_, rfl⟩
       have hb9 : Below w7.heap.size w7 W9 := by rw [hW9]; exact pw_below_drewN (Below.refl _ _) nq
       rw [← hW9]
       clear hW9 q0 b0 b1 hlook
       have HNA9 := hid (HNA7.out.below hb9)
       have HKP9 := hid (HKP7.out.trans (NetKeep.of hb9 HNA7.out.base))
       have HWY9 := Aside0.mk (HWY7.out.below hb9)
       have HBX9 := hid (show W9.heap[gb]? = some (.cells #[.int .i64 p1, .int .i64 v] 137 (0, 0)) from (hb9.block gb (lt_of_some HBX7.out)).trans HBX7.out)
       clear HNA7 HKP7 HWY7 HBX7 hb9
       go_wp2_with (fail)
       have q0 : W9.cell? ⟨nb, 0, none⟩ = some (.map (some mb)) := HNA9.out.cells.1
       have HRD := hid (HNA9.out.below (below_drew1 (Below.refl W9.heap.size W9)))
       obtain ⟨x3, hx3⟩ : ∃ x3, x3 = M3 v p1 := ⟨_, rfl⟩
       have hx4 : 0 ≤ x3 ∧ x3 + m ≤ 1000000000 := by rw [hx3]; exact HX3.out
       have hlook := HRD.out.room.look (u := v) (v := p1) (by omega) (by omega)
       unfold arcV at hlook
       rw [← hx3] at hlook
       have HX := hid hx3
       clear hx3
       obtain ⟨v5, st5, w10, w11, hE, hS, hR, hg, hz1, hz2⟩ := HRD.out.room.entry (by unfold maxLen; omega) (u := v) (v := p1) (x := x3 + m) (by omega) (by omega) (wfN (by omega) (by omega))
       obtain ⟨hM6, hg6⟩ := HRD.out.room.entryMid (by unfold maxLen; omega) (u := v) (v := p1) (by omega) (by omega) hE
       have hl6 := hM6.look (u := v) (v := p1) (by omega) (by omega)
       unfold arcV at hE hl6
       rw [← HX.out] at hl6
       replace hS : (Instr.entryStore 143 (.map (some mb)) (.int .i64 st5) (.int .i64 (x3 + m))).run Tryd.prog w10 = .ok () w11 := hS
       have hwr : IntKind.i64.wrap (x3 + m) = x3 + m := IntWalk.i64_in _ (by omega)
       have HS4 := hid (show W9.drew.cell? ⟨nb, 0, none⟩ = some (.map (some mb)) ∧ W9.drew.cell? ⟨gb, 0, none⟩ = some (.int .i64 p1) ∧ W9.drew.cell? ⟨gb, 1, none⟩ = some (.int .i64 v) ∧ (Instr.lookup 143 (.map (some mb)) (.agg #[.int .i64 (v : Int), .int .i64 (p1 : Int)]) false).run Tryd.prog W9.drew = .ok (.int .i64 x3) W9.drew from ⟨q0, by show W9.cell? _ = _; simp [World.cell?, HBX9.out], by show W9.cell? _ = _; simp [World.cell?, HBX9.out], hlook⟩)
       have HS6 := hid (show w10.cell? ⟨nb, 0, none⟩ = some (.map (some mb)) ∧ w10.cell? ⟨gb, 0, none⟩ = some (.int .i64 p1) ∧ w10.cell? ⟨gb, 1, none⟩ = some (.int .i64 v) ∧ (Instr.lookup 143 (.map (some mb)) (.agg #[.int .i64 (v : Int), .int .i64 (p1 : Int)]) false).run Tryd.prog w10 = .ok (.int .i64 x3) w10 from ⟨grown_cell hg6 HS4.out.1 HNA9.out.nbm, grown_cell hg6 HS4.out.2.1 hgbm, grown_cell hg6 HS4.out.2.2.1 hgbm, hl6⟩)
       clear hM6 hg6 hl6
       have HR := hid hR
       have HG := hid hg
       have HZ2 := hid hz2
       clear hR hg hlook hz1 hz2 q0
       refine start_ (n := 15) (S := fun w' => w'.cell? ⟨nb, 0, none⟩ = some (.map (some mb)) ∧ w'.cell? ⟨gb, 0, none⟩ = some (.int .i64 p1) ∧ w'.cell? ⟨gb, 1, none⟩ = some (.int .i64 v) ∧ (Instr.lookup 143 (.map (some mb)) (.agg #[.int .i64 (v : Int), .int .i64 (p1 : Int)]) false).run Tryd.prog w' = .ok (.int .i64 x3) w') (ds := [14]) #[false, false, false, false, false, false, false, false, false, false, false, false, false, false, false] (by kernel_rfl) rfl rfl HS4.out (fun hHeld => ?_)
       refine pure_ (i := 0) (N := some 86) (v := ?_) (a' := ?_) #[true, false, false, false, false, false, false, false, false, false, false, false, false, false, false] rfl rfl (by kernel_rfl) (fun _ _ _ h => h) (Or.inl ⟨by rfl, ?_⟩) ?_ ?_
       rotate_left
       ·intro w'
        go_simp
        with_reducible rfl
       rotate_left
       ·simp only [Act.put, List.setIfInBounds_toArray, List.set_cons_zero, List.set_cons_succ, i64_w, i32_w]
        rfl
       refine pure_ (i := 1) (N := some 87) (v := ?_) (a' := ?_) #[true, true, false, false, false, false, false, false, false, false, false, false, false, false, false] rfl rfl (by kernel_rfl) (fun _ _ _ h => h) (Or.inl ⟨by rfl, ?_⟩) ?_ ?_
       rotate_left
       ·intro w'
        go_simp
        with_reducible rfl
       rotate_left
       ·simp only [Act.put, List.setIfInBounds_toArray, List.set_cons_zero, List.set_cons_succ, i64_w, i32_w]
        rfl
       refine pure_ (i := 2) (N := some 88) (v := ?_) (a' := ?_) #[true, true, true, false, false, false, false, false, false, false, false, false, false, false, false] rfl rfl (by kernel_rfl) (fun _ _ _ h => h) (Or.inl ⟨by rfl, ?_⟩) ?_ ?_
       rotate_left
       ·intro w'
        go_simp
        with_reducible rfl
       rotate_left
       ·simp only [Act.put, List.setIfInBounds_toArray, List.set_cons_zero, List.set_cons_succ, i64_w, i32_w]
        rfl
       refine take_ (i := 3) (N := some 89) (v := ?_) (a' := ?_) #[true, true, true, true, false, false, false, false, false, false, false, false, false, false, false] rfl rfl (by kernel_rfl) (fun _ _ _ h => h) (Or.inl ⟨by rfl, ?_⟩) hHeld ?_ ?_
       rotate_left
       ·rintro w' ⟨s0, s1, s2, s3⟩
        go_simp
        with_reducible rfl
       rotate_left
       ·simp only [Act.put, List.setIfInBounds_toArray, List.set_cons_zero, List.set_cons_succ, i64_w, i32_w]
        rfl
       refine pure_ (i := 4) (N := some 90) (v := ?_) (a' := ?_) #[true, true, true, true, true, false, false, false, false, false, false, false, false, false, false] rfl rfl (by kernel_rfl) (fun _ _ _ h => h) (Or.inl ⟨by rfl, ?_⟩) ?_ ?_
       rotate_left
       ·intro w'
        go_simp
        with_reducible rfl
       rotate_left
       ·simp only [Act.put, List.setIfInBounds_toArray, List.set_cons_zero, List.set_cons_succ, i64_w, i32_w]
        rfl
       refine take_ (i := 5) (N := some 91) (v := ?_) (a' := ?_) #[true, true, true, true, true, true, false, false, false, false, false, false, false, false, false] rfl rfl (by kernel_rfl) (fun _ _ _ h => h) (Or.inl ⟨by rfl, ?_⟩) hHeld ?_ ?_
       rotate_left
       ·rintro w' ⟨s0, s1, s2, s3⟩
        go_simp
        with_reducible rfl
       rotate_left
       ·simp only [Act.put, List.setIfInBounds_toArray, List.set_cons_zero, List.set_cons_succ, i64_w, i32_w]
        rfl
       refine pure_ (i := 6) (N := some 92) (v := ?_) (a' := ?_) #[true, true, true, true, true, true, true, false, false, false, false, false, false, false, false] rfl rfl (by kernel_rfl) (fun _ _ _ h => h) (Or.inl ⟨by rfl, ?_⟩) ?_ ?_
       rotate_left
       ·intro w'
        go_simp
        with_reducible rfl
       rotate_left
       ·simp only [Act.put, List.setIfInBounds_toArray, List.set_cons_zero, List.set_cons_succ, i64_w, i32_w]
        rfl
       refine take_ (i := 7) (N := some 93) (v := ?_) (a' := ?_) #[true, true, true, true, true, true, true, true, false, false, false, false, false, false, false] rfl rfl (by kernel_rfl) (fun _ _ _ h => h) (Or.inl ⟨by rfl, ?_⟩) hHeld ?_ ?_
       rotate_left
       ·rintro w' ⟨s0, s1, s2, s3⟩
        go_simp
        with_reducible rfl
       rotate_left
       ·simp only [Act.put, List.setIfInBounds_toArray, List.set_cons_zero, List.set_cons_succ, i64_w, i32_w]
        rfl
       refine pure_ (i := 8) (N := some 94) (v := ?_) (a' := ?_) #[true, true, true, true, true, true, true, true, true, false, false, false, false, false, false] rfl rfl (by kernel_rfl) (fun _ _ _ h => h) (Or.inl ⟨by rfl, ?_⟩) ?_ ?_
       rotate_left
       ·intro w'
        go_simp
        with_reducible rfl
       rotate_left
       ·simp only [Act.put, List.setIfInBounds_toArray, List.set_cons_zero, List.set_cons_succ, i64_w, i32_w]
        rfl
       refine take_ (i := 9) (N := some 95) (v := ?_) (a' := ?_) #[true, true, true, true, true, true, true, true, true, true, false, false, false, false, false] rfl rfl (by kernel_rfl) (fun _ _ _ h => h) (Or.inl ⟨by rfl, ?_⟩) hHeld ?_ ?_
       rotate_left
       ·rintro w' ⟨s0, s1, s2, s3⟩
        go_simp
        with_reducible rfl
       rotate_left
       ·simp only [Act.put, List.setIfInBounds_toArray, List.set_cons_zero, List.set_cons_succ, i64_w, i32_w]
        rfl
       refine pure_ (i := 10) (N := some 96) (v := ?_) (a' := ?_) #[true, true, true, true, true, true, true, true, true, true, true, false, false, false, false] rfl rfl (by kernel_rfl) (fun _ _ _ h => h) (Or.inl ⟨by rfl, ?_⟩) ?_ ?_
       rotate_left
       ·intro w'
        go_simp
        with_reducible rfl
       rotate_left
       ·simp only [Act.put, List.setIfInBounds_toArray, List.set_cons_zero, List.set_cons_succ, i64_w, i32_w]
        rfl
       refine pure_ (i := 11) (N := some 97) (v := ?_) (a' := ?_) #[true, true, true, true, true, true, true, true, true, true, true, true, false, false, false] rfl rfl (by kernel_rfl) (fun _ _ _ h => h) (Or.inl ⟨by rfl, ?_⟩) ?_ ?_
       rotate_left
       ·intro w'
        go_simp
        with_reducible rfl
       rotate_left
       ·simp only [Act.put, List.setIfInBounds_toArray, List.set_cons_zero, List.set_cons_succ, i64_w, i32_w]
        rfl
       refine one_ (i := 12) (N := some 98) #[true, true, true, true, true, true, true, true, true, true, true, true, true, false, false] rfl rfl (by kernel_rfl) (by decide) (fun K hK => ?_)
       refine value_ (w1 := ?_) (v := ?_) (by rfl) rfl ?_ ?_
       rotate_left 2
       ·go_simp
        first | (refine ⟨?_, ?_⟩ <;> rfl) | rfl
       refine hK.out _ _ HS6.out (fun hHeld => ?_)
       clear hK K
       refine norm_ (a' := ?_) ?_ ?_
       rotate_left
       ·show Act.put _ (some 98) _ = _
        simp only [Act.put, List.setIfInBounds_toArray, List.set_cons_zero, List.set_cons_succ, i64_w, i32_w]
        rfl
       refine pure_ (i := 13) (N := some 99) (v := ?_) (a' := ?_) #[true, true, true, true, true, true, true, true, true, true, true, true, true, true, false] rfl rfl (by kernel_rfl) (fun _ _ _ h => h) (Or.inl ⟨by rfl, ?_⟩) ?_ ?_
       rotate_left
       ·intro w'
        go_simp
        with_reducible rfl
       rotate_left
       ·simp only [Act.put, List.setIfInBounds_toArray, List.set_cons_zero, List.set_cons_succ, i64_w, i32_w]
        rfl
       refine last_ (i := 14) (N := none) #[true, true, true, true, true, true, true, true, true, true, true, true, true, true, true] rfl rfl (by kernel_rfl) (by decide) (fun K hK => ?_)
       refine skip_ (w1 := ?_) (by rfl) rfl ?_ ?_
       rotate_left
       ·go_simp
        rfl
       refine hK.out _ _ ?_
       clear hK K
       refine done_ (by kernel_rfl) ?_
       obtain ⟨HNA11, HKP11⟩ := NetAt.put HRD.out HR.out HG.out
       have hB1w : B1 < W9.heap.size := HWY9.out.2.2
       have hB1m : B1 ≠ mb := by have := HN.out.lt; have := HBW.out; omega
       have HWYB := Aside0.mk (HWY9.out.heap (w1 := w11) (HG.out.block B1 hB1w (fun e => hB1m (Option.some.inj e))) (by rw [HZ2.out]; exact hB1w))
       have HNB := hid HNA11
       have HKB := hid ((HKP9.out.trans (NetKeep.of (below_drew1 (Below.refl W9.heap.size W9)) HNA9.out.base)).trans HKP11)
       clear HNA11 HKP11 hB1w hB1m HR HG HZ2 HS4 hE hS
       have k0 := (HWYB.out.1 v hv).1
       have k1 := (HWYB.out.1 v hv).2
       obtain ⟨hp2, _⟩ := (HT.out.next (t := t) (i := i) (by rw [← HV.out]; exact hv) (by rw [← HV.out]; exact HVW.out) (by rw [← HV.out]; exact HVS.out)).2
       rw [← HV.out, ← HPI.out] at hp2
       rw [hp2] at k0 k1
       clear hp2
       go_wp2
       go_roundg (d p1)
       case rel =>
        refine ⟨i + 1, p1, n2 + 1 + 1, upd M3 v p1 (x3 + m), rfl, ⟨HPI.out⟩, hp1, ⟨HP4.out⟩, Nat.le_refl _, by have := HP5.out; omega, ⟨?_⟩, ⟨HNB.out⟩, ⟨HKB.out⟩, HWYB⟩
        have h := HAU.out.step hv hp1 HP5.out (by omega) HML.out
        rw [← HM3.out, ← HX.out] at h
        exact h
       case measure => have := HP5.out; omega
   ·have d1 : ((v : Int) != (s : Int)) = true := bne_iff_ne.2 (by omega)
    obtain ⟨hp1, hp2, hp3, hp4, hp5⟩ := HT.out.next (t := t) (i := i) (by rw [← HV.out]; exact hv) (by rw [← HV.out]; exact HVW.out) (by rw [← HV.out]; exact hvs)
    have HN1 := hid (HN.out.below (by rw [← HBW.out]; exact HBL.out))
    have q0 : wr.cell? ⟨nb, 0, none⟩ = some (.map (some mb)) := HN1.out.cells.1
    have k0 := (HWY.out.1 v hv).1
    have k1 := (HWY.out.1 v hv).2
    rw [← HV.out] at hp2 hp3 hp5
    obtain ⟨p1, hp⟩ : ∃ p1, p1 = itP way t (i + 1) := ⟨_, rfl⟩
    rw [← hp] at hp1 hp2 hp3 hp4 hp5
    rw [hp2] at k0 k1
    have hlook := HN1.out.room.lookN (u := p1) (v := v) (by omega) (by omega)
    have s0 : (0 : Int) ≤ (v : Int) := by omega
    have s1 : (v : Int) < (N : Int) := by omega
    have HP4 := hid hp4
    have HPI := hid hp
    clear hp hp4 hp2
    obtain ⟨m2, hm⟩ : ∃ m2, m2 = M p1 v := ⟨_, rfl⟩
    rw [← hm] at hlook hp3
    have HM2 := hid hm
    clear hm
    go_wp2_with (fail)
    go_quiet (fail)
    go_wp2_with (fail)
    all_goals
     go_roundg (d p1)
     case rel =>
      refine ⟨i + 1, p1, _, rfl, rfl, ⟨HPI.out⟩, hp1, ⟨HP4.out⟩, Nat.le_refl _, by omega, by omega, ⟨fun j hj => ?_⟩, ⟨HWY.out.below (pw_below_drewN (Below.refl _ _) nq)⟩, ⟨HBL.out.trans ((pw_below_drewN (Below.refl wr.heap.size wr) nq).mono (Nat.le_of_lt HWY.out.2.2))⟩⟩
      rcases Nat.lt_or_ge j i with hji | hji
      ·have := HLE.out j hji; omega
      ·have hje : j = i := by omega
       rw [hje, ← HPI.out, ← HV.out, ← HM2.out]; omega
     case measure => omega
end Go.Proofs.YtiioklboaookiaaDoor.Q
namespace Go.Proofs.YtiioklboaookiaaDoor.Q
open Go.RowKit Go.Proofs.YtiioklboaookiaaDoorW.PrintWords Go.Proofs.YtiioklboaookiaaDoorW.PrintLast Go.Proofs.YtiioklboaookiaaDoor.Hand Go.Proofs.YtiioklboaookiaaDoorW.PrintMore
attribute [local go_sem] max2_int min2_int max_two min_two max_three min_three max_four min_four
set_option linter.unusedVariables false
set_option linter.unusedSimpArgs false
def probCells (b : Nat) (A0 : Option Addr) (n c0 : Nat) (net : Value) (A1 : Option Addr) (m c1 : Nat) (work : Int) : Array Value := #[.int .i64 b, .slice A0 n c0, net, .slice A1 m c1, .int .i64 work]
def ProbAt (pb : Nat) (b : Nat) (A0 : Option Addr) (n c0 : Nat) (net : Value) (A1 : Option Addr) (m c1 : Nat) (work : Int) (w : World) : Prop := w.heap[pb]? = some (.cells (probCells b A0 n c0 net A1 m c1 work) 99 (0, 0))
theorem ProbAt.cells {pb b : Nat} {A0 : Option Addr} {n c0 : Nat} {net : Value} {A1 : Option Addr} {m c1 : Nat} {work : Int} {w : World} (h : ProbAt pb b A0 n c0 net A1 m c1 work w) :
  w.cell? ⟨pb, 0, none⟩ = some (.int .i64 b) ∧ w.cell? ⟨pb, 1, none⟩ = some (.slice A0 n c0) ∧ w.cell? ⟨pb, 2, none⟩ = some net ∧ w.cell? ⟨pb, 3, none⟩ = some (.slice A1 m c1) ∧ w.cell? ⟨pb, 4, none⟩ = some (.int .i64 work) ∧ ∀ j, w.frozen? ⟨pb, j, none⟩ = false := by
 unfold ProbAt probCells at h
 simp [World.cell?, World.frozen?, h]
set_option maxRecDepth 100000 in
theorem job_walk (pb k : Nat) (w : World) (hk : k ≤ 1000) : Calls Tryd.prog 49 #[.pointer (some ⟨pb, 0, none⟩), .int .i64 k] w fun e w' => e = .returned (.int .i64 ((1 + k : Nat) : Int)) ∧ w' = w := by
 have hw : IntKind.i64.wrap (1 + (k : Int)) = ((1 + k : Nat) : Int) := by rw [IntWalk.i64_in _ (by omega)]; omega
 go_enter Tryd.func49, Tryd.ntmps49
 go_wp2_with (fail)
 go_ret
 exact ⟨by simp, rfl⟩
set_option maxRecDepth 100000 in
theorem part_walk (pb b : Nat) (A0 : Option Addr) (n c0 : Nat) (net : Value) (A1 : Option Addr) (m c1 : Nat) (work : Int) (k : Nat) (w : World) (h : ProbAt pb b A0 n c0 net A1 m c1 work w) (hn : n ≤ 1000) (hk : k ≤ 1000) : Calls Tryd.prog 50 #[.pointer (some ⟨pb, 0, none⟩), .int .i64 k] w fun e w' => e = .returned (.int .i64 ((1 + n + k : Nat) : Int)) ∧ w' = w := by
 obtain ⟨q0, q1, q2, q3, q4, _⟩ := h.cells
 clear h
 go_enter Tryd.func50, Tryd.ntmps50
 go_wp2_with (fail)
 go_ret
 exact ⟨by simp, rfl⟩
set_option maxRecDepth 100000 in
theorem last_walk (pb b : Nat) (A0 : Option Addr) (n c0 : Nat) (net : Value) (A1 : Option Addr) (m c1 : Nat) (work : Int) (w : World) (h : ProbAt pb b A0 n c0 net A1 m c1 work w) (hn : n ≤ 1000) (hm : m ≤ 1000) : Calls Tryd.prog 32 #[.pointer (some ⟨pb, 0, none⟩)] w fun e w' => e = .returned (.int .i64 ((1 + n + m : Nat) : Int)) ∧ ∃ q, w' = w.drewN q := by
 obtain ⟨q0, q1, q2, q3, q4, _⟩ := h.cells
 clear h
 go_enter Tryd.func32, Tryd.ntmps32
 go_wp2_with (fail)
 go_quiet (fail)
 go_wp2_with (fail)
 go_ret
 exact ⟨by simp, _, rfl⟩
set_option maxRecDepth 100000 in
theorem length_walk (a b : Int) (w : World) (h0 : 0 ≤ a) (h1 : a ≤ 100000) (h2 : 0 ≤ b) (h3 : b ≤ 100000) : Calls Tryd.prog 51 #[.agg #[.int .i64 a, .int .i64 b]] w fun e w' => e = .returned (.int .i64 (b - a)) ∧ Below w.heap.size w w' := by
 go_enter Tryd.func51, Tryd.ntmps51
 go_wp2_with (fail)
 go_ret
 exact ⟨by simp, below_alloc (Below.refl _ _) _⟩
end Go.Proofs.YtiioklboaookiaaDoor.Q
namespace Go.Proofs.YtiioklboaookiaaDoor.Q
open Go.RowKit Go.Proofs.YtiioklboaookiaaDoorW.PrintWords Go.Proofs.YtiioklboaookiaaDoorW.PrintLast Go.Proofs.YtiioklboaookiaaDoor.Hand Go.Proofs.YtiioklboaookiaaDoorW.PrintMore
attribute [local go_sem] max2_int min2_int max_two min_two max_three min_three max_four min_four
set_option linter.unusedVariables false
set_option linter.unusedSimpArgs false
theorem ProbAt.below {pb b : Nat} {A0 : Option Addr} {n c0 : Nat} {net : Value} {A1 : Option Addr} {m c1 : Nat} {work : Int} {w w1 : World} (h : ProbAt pb b A0 n c0 net A1 m c1 work w) (hb : Below w.heap.size w w1) : ProbAt pb b A0 n c0 net A1 m c1 work w1 := (hb.block pb (lt_of_some h)).trans h
theorem sum_nn : ∀ (l : List Int), (∀ x, x ∈ l → 0 ≤ x) → 0 ≤ l.sum
 | [], _ => Int.le_refl _
 | a :: l, h => by
  rw [List.sum_cons]
  have := h a List.mem_cons_self
  have := sum_nn l (fun x hx => h x (List.mem_cons_of_mem _ hx))
  omega
theorem job_walkI (pb k : Nat) (w : World) (hk : k ≤ 1000) : Calls Tryd.prog 49 #[.pointer (some ⟨pb, 0, none⟩), .int .i64 k] w fun e w' => e = .returned (.int .i64 (1 + (k : Int))) ∧ w' = w := by
 have h := job_walk pb k w hk
 rw [show ((1 + k : Nat) : Int) = 1 + (k : Int) by omega] at h
 exact h
theorem part_walkI (pb b : Nat) (A0 : Option Addr) (n c0 : Nat) (net : Value) (A1 : Option Addr) (m c1 : Nat) (work : Int) (k : Nat) (w : World) (h : ProbAt pb b A0 n c0 net A1 m c1 work w) (hn : n ≤ 1000) (hk : k ≤ 1000) : Calls Tryd.prog 50 #[.pointer (some ⟨pb, 0, none⟩), .int .i64 k] w fun e w' => e = .returned (.int .i64 (1 + (n : Int) + (k : Int))) ∧ w' = w := by
 have h := part_walk pb b A0 n c0 net A1 m c1 work k w h hn hk
 rw [show ((1 + n + k : Nat) : Int) = 1 + (n : Int) + (k : Int) by omega] at h
 exact h
set_option maxHeartbeats 8000000 in
set_option maxRecDepth 100000 in
theorem wrap_walk (pb b : Nat) (A0 : Option Addr) (n c0 nb : Nat) (A1 : Option Addr) (c1 : Nat) (work : Int) (ps : List S72) (mb xb B N cnt : Nat) (M : Nat → Nat → Int) (adj : Nat → List Nat) (vs : Nat → Value) (w : World) (i : Nat)
  (hp : ProbAt pb b A0 n c0 (.pointer (some ⟨nb, 0, none⟩)) A1 ps.length c1 work w) (hc : Kd.C k72 w A1 ps.length ps) (hn : NetAt nb mb xb B N cnt M adj vs w) (hi : i < ps.length) (hn32 : n ≤ 32) (hm : ps.length ≤ 64)
  (hsp : ∀ s, s ∈ ps → 0 ≤ s.f0 ∧ s.f0 < s.f1 ∧ s.f1 ≤ 1000) (hws : ∀ x, x ∈ worksF M n i → 0 ≤ x) (hT : (worksF M n i).sum ≤ 10000) :
  Calls Tryd.prog 54 #[.pointer (some ⟨pb, 0, none⟩), .int .i64 i] w fun e w' => ∃ v, e = .returned v ∧ Kd.R kSlt 132 w' w.heap.size (fun _ => True) v (wrapF M n ps i) ∧ Below w.heap.size w w' := by
 obtain ⟨q0, q1, q2, q3, q4, _⟩ := hp.cells
 obtain ⟨ad1, e1, hs0, hs1⟩ := at_T72 hc (i : Int) (by omega) (by omega)
 rw [Int.toNat_natCast] at hs0 hs1
 cases e1
 have hi' : (i : Int) < (ps.length : Int) := by omega
 have i0 : (0 : Int) ≤ (i : Int) := by omega
 have hmem : rd_T72 ps (i : Int) ∈ ps := by
  unfold rd_T72; rw [Int.toNat_natCast, List.getD_eq_getElem?_getD, List.getElem?_eq_getElem hi]; exact List.getElem_mem hi
 have hspv := hsp _ hmem
 clear hmem
 have HP := hid hp
 have HN := hid hn
 have HWS := hid hws
 have HT := hid hT
 obtain ⟨F, hF⟩ : ∃ F, F = wrapF M n ps i := ⟨_, rfl⟩
 rw [← hF]
 unfold wrapF at hF
 obtain ⟨sp, hspe⟩ : ∃ sp, sp = rd_T72 ps (i : Int) := ⟨_, rfl⟩
 rw [← hspe] at hs0 hs1 hspv hF
 obtain ⟨s0, s1, s2⟩ := hspv
 have HF := hid hF
 clear hspe hF hp hc hn hws hT hsp
 go_enter Tryd.func54, Tryd.ntmps54
 go_wp2_with (fail)
 go_quiet (fail)
 obtain ⟨W1, hW1⟩ : ∃ W1, W1 = (w.alloc (.cells #[.int .i64 sp.f0, .int .i64 sp.f1] 125)).drewN nq := ⟨_, rfl⟩
 obtain ⟨sb, hsb⟩ : ∃ sb, sb = w.heap.size := ⟨_, rfl⟩
 have hb1 : Below w.heap.size w W1 := by rw [hW1]; exact pw_below_drewN (below_alloc (Below.refl _ _) _) nq
 have HSB := hid (show W1.heap[sb]? = some (.cells #[.int .i64 sp.f0, .int .i64 sp.f1] 125 (0, 0)) by rw [hW1, hsb]; exact blk_new _ _)
 rw [← hW1, ← hsb]
 have HP1 := hid (HP.out.below hb1)
 have HN1 := hid (HN.out.below hb1)
 have HB1 := Aside0.mk (show Below sb w W1 by rw [hsb]; exact hb1)
 have hsz : sb ≤ W1.heap.size := Nat.le_of_lt (lt_of_some HSB.out)
 have HSZ := hid hsb
 clear hW1 hsb hb1 q0 q1 q2 q3 q4 hs0 hs1 HP HN
 have q1 : W1.cell? ⟨pb, 1, none⟩ = some (.slice A0 n c0) := HP1.out.cells.2.1
 go_wp2_with (fail)
 clear q1
 obtain ⟨B1, hB1⟩ : ∃ B1, B1 = W1.heap.size := ⟨_, rfl⟩
 have HBE := hid hB1
 rw [← hB1] at hsz
 have HL0 : Aside0 (Kd.R kSlt 132 W1 B1 (fun _ => True) (.slice none 0 0) []) := ⟨Kd.R_nil _ _ _ _ _⟩
 have HBB0 : Aside0 (Below B1 W1 W1) := ⟨Below.refl _ _⟩
 have HF0 : Aside0 ([] ++ wrapAll sp.f0 sp.f1 ((worksF M n i).drop 0) (0 : Nat) 0 sp.f0 = F) := ⟨HF.out.symm⟩
 clear hB1
 go_loopg [5, 7, 8, 27] n (fun kq v5 v7 v8 v27 w' => ∃ (k : Nat) (L : List Slt) (bn pl : Int), v7 = .int .i64 bn ∧ v8 = .int .i64 pl ∧ v27 = .int .i64 k ∧ k + kq = n ∧ 0 ≤ bn ∧ sp.f0 ≤ pl ∧ pl < sp.f1 ∧ Aside0 (bn + ((worksF M n i).drop k).sum ≤ 10000) ∧ Aside0 ((L.length : Int) + ((worksF M n i).drop k).sum ≤ 10000) ∧
  Aside0 (L ++ wrapAll sp.f0 sp.f1 ((worksF M n i).drop k) k bn pl = F) ∧ Aside0 (Kd.R kSlt 132 w' B1 (fun _ => True) v5 L) ∧ Aside0 (Below B1 W1 w'))
 case atStart => exact ⟨0, [], 0, sp.f0, rfl, rfl, rfl, by omega, by omega, by omega, by omega, ⟨by have := HT.out; simpa using this⟩, ⟨by have := HT.out; simpa using this⟩, HF0, HL0, HBB0⟩
 case round =>
  clear HL0 HBB0 HF0
  obtain ⟨k, L, bn, pl, rfl, rfl, rfl, hk, hbn, hpl0, hpl1, HS1, HS2, HFF, HL, HBW⟩ := hrel
  by_cases hlt : k < n
  ·have d2 : decide ((k : Int) < (n : Int)) = true := decide_eq_true (by omega)
   have d2n : decide (k < n) = true := decide_eq_true hlt
   have HLT := hid hlt
   have hwd := worksF_drop M n i k hlt
   have hx0 : 0 ≤ M (1 + n + i) (1 + k) := HWS.out _ (List.mem_of_mem_drop (by rw [hwd]; exact List.mem_cons_self))
   have hrest : 0 ≤ ((worksF M n i).drop (k + 1)).sum := sum_nn _ (fun x hx => HWS.out x (List.mem_of_mem_drop hx))
   have hs1 := HS1.out
   have hs2 := HS2.out
   have hff := HFF.out
   rw [hwd] at hs1 hs2 hff
   rw [List.sum_cons] at hs1 hs2
   unfold wrapAll at hff
   rw [← List.append_assoc] at hff
   obtain ⟨R1, hR1⟩ : ∃ R1, R1 = ((worksF M n i).drop (k + 1)).sum := ⟨_, rfl⟩
   rw [← hR1] at hs1 hs2 hrest
   have HR1 := hid hR1
   have HP2 := hid (HP1.out.below (by rw [← HBE.out]; exact HBW.out))
   have HN2 := hid (HN1.out.below (by rw [← HBE.out]; exact HBW.out))
   have hb2 := HBW.out
   have hlook := HN2.out.room.lookN (u := 1 + n + i) (v := 1 + k) (by omega) (by omega)
   rw [show ((1 + n + i : Nat) : Int) = 1 + (n : Int) + (i : Int) by omega, show ((1 + k : Nat) : Int) = 1 + (k : Int) by omega] at hlook
   have q2 : wr.cell? ⟨pb, 2, none⟩ = some (.pointer (some ⟨nb, 0, none⟩)) := HP2.out.cells.2.2.1
   have q0 : wr.cell? ⟨nb, 0, none⟩ = some (.map (some mb)) := HN2.out.cells.1
   obtain ⟨x, hx⟩ : ∃ x, x = M (1 + n + i) (1 + k) := ⟨_, rfl⟩
   rw [← hx] at hx0 hs1 hs2 hff hlook
   clear hx hlt hwd hR1 hb2
   have HFF2 := hid hff
   clear hff
   go_wp2_with (fail)
   go_quiet (first | (go_at_call 50; refine Calls.quiet_of_same (part_walkI pb b _ n c0 _ _ ps.length c1 _ i _ (HP2.out.below (pw_below_drewN (Below.refl _ _) _)) (by omega) (by omega))) | (go_at_call 49; refine Calls.quiet_of_same (job_walkI pb k _ (by omega))))
   obtain ⟨W4, hW4⟩ : ∃ W4, W4 = wr.drewN nq := ⟨_, rfl⟩
   have HBW4 := Aside0.mk (show Below B1 W1 W4 by rw [hW4]; exact pw_below_drewN HBW.out nq)
   have HL4 := Aside0.mk (show Kd.R kSlt 132 W4 B1 (fun _ => True) u5 L by rw [hW4]; exact Kd.R_drewN HL.out nq)
   rw [← hW4]
   clear hW4 HBW HL HN2 HP2 hlook q0 q2 HFF HS1 HS2
   have HFF3 : Aside0 (L ++ (wrapW (k : Int) sp.f0 sp.f1 x bn pl).1 ++ wrapAll sp.f0 sp.f1 ((worksF M n i).drop (k + 1)) ((k : Int) + 1) (wrapW (k : Int) sp.f0 sp.f1 x bn pl).2.1 (wrapW (k : Int) sp.f0 sp.f1 x bn pl).2.2 = F) := ⟨HFF2.out⟩
   clear HFF2
   have HSC := hid (show ∀ w', Below B1 W1 w' → w'.cell? ⟨sb, 0, none⟩ = some (.int .i64 sp.f0) ∧ w'.cell? ⟨sb, 1, none⟩ = some (.int .i64 sp.f1) from fun w' hw => ⟨(hw.cell (by have := lt_of_some HSB.out; rw [HBE.out]; exact this)).trans (by simp [World.cell?, HSB.out]), (hw.cell (by have := lt_of_some HSB.out; rw [HBE.out]; exact this)).trans (by simp [World.cell?, HSB.out])⟩)
   go_wp2_with (fail)
   go_loopg [5, 7, 8, 10] x.toNat (fun kq v5 v7 v8 v10 w' => ∃ (L2 : List Slt) (bn2 pl2 x2 : Int), v7 = .int .i64 bn2 ∧ v8 = .int .i64 pl2 ∧ v10 = .int .i64 x2 ∧ 0 ≤ x2 ∧ x2.toNat ≤ kq ∧ 0 ≤ bn2 ∧ sp.f0 ≤ pl2 ∧ pl2 < sp.f1 ∧ bn2 + (x2 + R1) ≤ 10000 ∧ Aside0 ((L2.length : Int) + (x2 + R1) ≤ 10000) ∧
    Aside0 (L2 ++ (wrapW (k : Int) sp.f0 sp.f1 x2 bn2 pl2).1 ++ wrapAll sp.f0 sp.f1 ((worksF M n i).drop (k + 1)) ((k : Int) + 1) (wrapW (k : Int) sp.f0 sp.f1 x2 bn2 pl2).2.1 (wrapW (k : Int) sp.f0 sp.f1 x2 bn2 pl2).2.2 = F) ∧ Aside0 (Kd.R kSlt 132 w' B1 (fun _ => True) v5 L2) ∧ Aside0 (Below B1 W1 w'))
   case atStart => exact ⟨L, bn, pl, x, rfl, rfl, rfl, hx0, Nat.le_refl _, hbn, hpl0, hpl1, hs1, ⟨hs2⟩, HFF3, HL4, HBW4⟩
   case round =>
    clear HFF3 HL4 HBW4 hs1 hs2 hx0
    obtain ⟨L2, bn2, pl2, x2, rfl, rfl, rfl, hx2, hk2, hb2, hp0, hp1, hs1, HLL, HFF, HL2, HBW2⟩ := hrel
    obtain ⟨Ao, co, eO⟩ := Kd.R_slice HL2.out
    obtain ⟨L1, hL1⟩ : ∃ L1, L1 = L2.length := ⟨_, rfl⟩
    rw [← hL1] at eO
    subst eO
    have HL1 := hid hL1
    clear hL1
    obtain ⟨c0_, c1_⟩ := HSC.out wr HBW2.out
    by_cases hx3 : 0 < x2
    ·have dgt : decide (0 < x2) = true := decide_eq_true hx3
     by_cases hc : sp.f1 - pl2 < x2
     ·have HNN2 := hid (show sp.f1 - pl2 = if sp.f1 - pl2 < x2 then sp.f1 - pl2 else x2 by rw [if_pos hc])
      have HPE := hid (show pl2 + (sp.f1 - pl2) = sp.f1 by omega)
      have t2 : (pl2 + (sp.f1 - pl2) == sp.f1) = true := beq_iff_eq.2 HPE.out
      go_wp2_with ((with_reducible refine gate_builtin (b := .append) (xs := #[.tmp 53, .tmp 61]) rfl ?_); at_builtin; refine Kd.R_append kSlt (w0 := W1) B1 rfl (.tmp 53) (.tmp 61) 50 132 (.agg #[.int .i64 0, .int .i64 0, .int .i64 0, .int .i64 0]) 32 rfl Tryd.underlying50 infoSlt rfl (by decide) (by omega) (.slice Ao L1 co) L2 ⟨(k : Int), bn2, pl2, pl2 + (sp.f1 - pl2)⟩ [.int .i64 (k : Int), .int .i64 bn2, .int .i64 pl2, .int .i64 (pl2 + (sp.f1 - pl2))] (fun _ => True) (fun _ => False) rfl (by first | (go_simp; done) | (go_simp; rfl)) ?aP (fun _ hk => hk.elim) (fun _ _ => trivial) HL2.out HBW2.out (by rw [HBE.out]; exact HBW2.out.size) ?aL ?_; (case aP => exact kSlt_mkM _ _ _ ⟨(k : Int), bn2, pl2, pl2 + (sp.f1 - pl2)⟩); (case aL => have := HLL.out; omega); intro v6 w6 ho hb hg hat; have HO6 := Aside0.mk ho; have HB6 := Aside0.mk hb; obtain ⟨c2_, c3_⟩ := HSC.out w6 HB6.out; clear ho hb hg hat)
      go_quiet (fail)
      obtain ⟨W7, hW7⟩ : ∃ W7, W7 = w6.drewN nq := ⟨_, rfl⟩
      have HO7 := Aside0.mk (show Kd.R kSlt 132 W7 B1 (fun _ => True) v6 (L2 ++ [⟨(k : Int), bn2, pl2, pl2 + (sp.f1 - pl2)⟩]) by rw [hW7]; exact Kd.R_drewN HO6.out nq)
      have HB7 := Aside0.mk (show Below B1 W1 W7 by rw [hW7]; exact pw_below_drewN HB6.out nq)
      rw [← hW7]
      clear hW7 HO6 HB6
      go_wp2_with (fail)
      have hff := HFF.out
      rw [wrapW_step (k : Int) sp.f0 sp.f1 x2 bn2 pl2 (sp.f1 - pl2) s1 hp1 hx3 HNN2.out, if_pos HPE.out, if_pos HPE.out] at hff
      have HFF4 : Aside0 ((L2 ++ [⟨(k : Int), bn2, pl2, pl2 + (sp.f1 - pl2)⟩]) ++ (wrapW (k : Int) sp.f0 sp.f1 (x2 - (sp.f1 - pl2)) (bn2 + 1) (sp.f0)).1 ++ wrapAll sp.f0 sp.f1 ((worksF M n i).drop (k + 1)) ((k : Int) + 1) (wrapW (k : Int) sp.f0 sp.f1 (x2 - (sp.f1 - pl2)) (bn2 + 1) (sp.f0)).2.1 (wrapW (k : Int) sp.f0 sp.f1 (x2 - (sp.f1 - pl2)) (bn2 + 1) (sp.f0)).2.2 = F) := ⟨by rw [← hff]; simp⟩
      clear hff
      go_roundg (x2 - (sp.f1 - pl2)).toNat
      case rel => exact ⟨_, bn2 + 1, sp.f0, x2 - (sp.f1 - pl2), rfl, rfl, rfl, by omega, Nat.le_refl _, by omega, by omega, by omega, by omega, ⟨by rw [List.length_append]; have := HLL.out; simp; omega⟩, HFF4, HO7, HB7⟩
      case measure => omega
     ·have HNN2 := hid (show x2 = if sp.f1 - pl2 < x2 then sp.f1 - pl2 else x2 by rw [if_neg hc])
      by_cases hpe : pl2 + x2 = sp.f1
      ·have t2 : (pl2 + x2 == sp.f1) = true := beq_iff_eq.2 hpe
       have HPE := hid hpe
       clear hpe
       go_wp2_with ((with_reducible refine gate_builtin (b := .append) (xs := #[.tmp 53, .tmp 61]) rfl ?_); at_builtin; refine Kd.R_append kSlt (w0 := W1) B1 rfl (.tmp 53) (.tmp 61) 50 132 (.agg #[.int .i64 0, .int .i64 0, .int .i64 0, .int .i64 0]) 32 rfl Tryd.underlying50 infoSlt rfl (by decide) (by omega) (.slice Ao L1 co) L2 ⟨(k : Int), bn2, pl2, pl2 + x2⟩ [.int .i64 (k : Int), .int .i64 bn2, .int .i64 pl2, .int .i64 (pl2 + x2)] (fun _ => True) (fun _ => False) rfl (by first | (go_simp; done) | (go_simp; rfl)) ?aP (fun _ hk => hk.elim) (fun _ _ => trivial) HL2.out HBW2.out (by rw [HBE.out]; exact HBW2.out.size) ?aL ?_; (case aP => exact kSlt_mkM _ _ _ ⟨(k : Int), bn2, pl2, pl2 + x2⟩); (case aL => have := HLL.out; omega); intro v6 w6 ho hb hg hat; have HO6 := Aside0.mk ho; have HB6 := Aside0.mk hb; obtain ⟨c2_, c3_⟩ := HSC.out w6 HB6.out; clear ho hb hg hat)
       go_quiet (fail)
       obtain ⟨W7, hW7⟩ : ∃ W7, W7 = w6.drewN nq := ⟨_, rfl⟩
       have HO7 := Aside0.mk (show Kd.R kSlt 132 W7 B1 (fun _ => True) v6 (L2 ++ [⟨(k : Int), bn2, pl2, pl2 + x2⟩]) by rw [hW7]; exact Kd.R_drewN HO6.out nq)
       have HB7 := Aside0.mk (show Below B1 W1 W7 by rw [hW7]; exact pw_below_drewN HB6.out nq)
       rw [← hW7]
       clear hW7 HO6 HB6
       go_wp2_with (fail)
       have hff := HFF.out
       rw [wrapW_step (k : Int) sp.f0 sp.f1 x2 bn2 pl2 x2 s1 hp1 hx3 HNN2.out, if_pos HPE.out, if_pos HPE.out, show x2 - x2 = 0 by omega] at hff
       have HFF4 : Aside0 ((L2 ++ [⟨(k : Int), bn2, pl2, pl2 + x2⟩]) ++ (wrapW (k : Int) sp.f0 sp.f1 0 (bn2 + 1) (sp.f0)).1 ++ wrapAll sp.f0 sp.f1 ((worksF M n i).drop (k + 1)) ((k : Int) + 1) (wrapW (k : Int) sp.f0 sp.f1 0 (bn2 + 1) (sp.f0)).2.1 (wrapW (k : Int) sp.f0 sp.f1 0 (bn2 + 1) (sp.f0)).2.2 = F) := ⟨by rw [← hff]; simp⟩
       clear hff
       go_roundg (0 : Int).toNat
       case rel => exact ⟨_, bn2 + 1, sp.f0, 0, rfl, rfl, rfl, by omega, Nat.le_refl _, by omega, by omega, by omega, by omega, ⟨by rw [List.length_append]; have := HLL.out; simp; omega⟩, HFF4, HO7, HB7⟩
       case measure => omega
      ·have t2 : (pl2 + x2 == sp.f1) = false := by rw [beq_eq_false_iff_ne]; exact hpe
       have HPE := hid hpe
       clear hpe
       go_wp2_with ((with_reducible refine gate_builtin (b := .append) (xs := #[.tmp 53, .tmp 61]) rfl ?_); at_builtin; refine Kd.R_append kSlt (w0 := W1) B1 rfl (.tmp 53) (.tmp 61) 50 132 (.agg #[.int .i64 0, .int .i64 0, .int .i64 0, .int .i64 0]) 32 rfl Tryd.underlying50 infoSlt rfl (by decide) (by omega) (.slice Ao L1 co) L2 ⟨(k : Int), bn2, pl2, pl2 + x2⟩ [.int .i64 (k : Int), .int .i64 bn2, .int .i64 pl2, .int .i64 (pl2 + x2)] (fun _ => True) (fun _ => False) rfl (by first | (go_simp; done) | (go_simp; rfl)) ?aP (fun _ hk => hk.elim) (fun _ _ => trivial) HL2.out HBW2.out (by rw [HBE.out]; exact HBW2.out.size) ?aL ?_; (case aP => exact kSlt_mkM _ _ _ ⟨(k : Int), bn2, pl2, pl2 + x2⟩); (case aL => have := HLL.out; omega); intro v6 w6 ho hb hg hat; have HO6 := Aside0.mk ho; have HB6 := Aside0.mk hb; obtain ⟨c2_, c3_⟩ := HSC.out w6 HB6.out; clear ho hb hg hat)
       have hff := HFF.out
       rw [wrapW_step (k : Int) sp.f0 sp.f1 x2 bn2 pl2 x2 s1 hp1 hx3 HNN2.out, if_neg HPE.out, if_neg HPE.out, show x2 - x2 = 0 by omega] at hff
       have HFF4 : Aside0 ((L2 ++ [⟨(k : Int), bn2, pl2, pl2 + x2⟩]) ++ (wrapW (k : Int) sp.f0 sp.f1 0 (bn2) (pl2 + x2)).1 ++ wrapAll sp.f0 sp.f1 ((worksF M n i).drop (k + 1)) ((k : Int) + 1) (wrapW (k : Int) sp.f0 sp.f1 0 (bn2) (pl2 + x2)).2.1 (wrapW (k : Int) sp.f0 sp.f1 0 (bn2) (pl2 + x2)).2.2 = F) := ⟨by rw [← hff]; simp⟩
       clear hff
       go_roundg (0 : Int).toNat
       case rel => exact ⟨_, bn2, pl2 + x2, 0, rfl, rfl, rfl, by omega, Nat.le_refl _, by omega, by omega, by have := HPE.out; omega, by omega, ⟨by rw [List.length_append]; have := HLL.out; simp; omega⟩, HFF4, HO6, HB6⟩
       case measure => omega
    ·have dgt : decide (0 < x2) = false := decide_eq_false hx3
     have hff := HFF.out
     rw [wrapW_done _ _ _ _ _ _ hx3, List.append_nil] at hff
     have HFF4 : Aside0 (L2 ++ wrapAll sp.f0 sp.f1 ((worksF M n i).drop (k + 1)) ((k + 1 : Nat) : Int) bn2 pl2 = F) := ⟨hff⟩
     have HS5 : Aside0 (bn2 + ((worksF M n i).drop (k + 1)).sum ≤ 10000) := ⟨by rw [← HR1.out]; omega⟩
     have HS6 : Aside0 ((L2.length : Int) + ((worksF M n i).drop (k + 1)).sum ≤ 10000) := ⟨by rw [← HR1.out]; have := HLL.out; omega⟩
     have HL5 : Aside0 (Kd.R kSlt 132 wr B1 (fun _ => True) (.slice Ao L1 co) L2) := ⟨HL2.out⟩
     clear hff
     go_wp2_with (fail)
     go_roundg (n - (k + 1))
     case rel => exact ⟨k + 1, L2, bn2, pl2, rfl, rfl, by go_num, by have := HLT.out; omega, hb2, hp0, hp1, HS5, HS6, HFF4, HL5, HBW2⟩
     case measure => have := HLT.out; omega
  ·have d2 : decide ((k : Int) < (n : Int)) = false := decide_eq_false (by omega)
   have hff := HFF.out
   rw [List.drop_eq_nil_of_le (by rw [worksF_length]; omega)] at hff
   have hff2 : L = F := by rw [← hff]; unfold wrapAll; rw [List.append_nil]
   subst hff2
   have HLZ := Aside0.mk HL.out
   clear hff HL HFF
   go_wp2_with (fail)
   go_ret
   exact ⟨_, rfl, Kd.R_lower HLZ.out (by rw [← HSZ.out]; exact hsz), by rw [← HSZ.out]; exact HB1.out.trans ((HBW.out).mono hsz)⟩
end Go.Proofs.YtiioklboaookiaaDoor.Q
namespace Go.Proofs.YtiioklboaookiaaDoor.Q
open Go.RowKit Go.Proofs.YtiioklboaookiaaDoorW.PrintWords Go.Proofs.YtiioklboaookiaaDoorW.PrintLast Go.Proofs.YtiioklboaookiaaDoor.Hand Go.Proofs.YtiioklboaookiaaDoorW.PrintMore
attribute [local go_sem] max2_int min2_int max_two min_two max_three min_three max_four min_four
set_option linter.unusedVariables false
set_option linter.unusedSimpArgs false
set_option maxHeartbeats 4000000 in
set_option maxRecDepth 100000 in
theorem stable_walk (g cap base : Nat) (L : List Slt) (w : World) (h : Kd.R kSlt 132 w base (fun _ => True) (.slice (some ⟨g, 0, none⟩) L.length cap) L) (hbase : base ≤ w.heap.size) (hl : L.length ≤ 20) :
  Calls Tryd.prog 72 #[.slice (some ⟨g, 0, none⟩) L.length cap, .int .i64 L.length, .func (.func 56) #[] #[]] w fun e w' => e = .returned (.tuple #[]) ∧
   ∃ L', L'.Perm L ∧ Kd.R kSlt 132 w' base (fun _ => True) (.slice (some ⟨g, 0, none⟩) L'.length cap) L' ∧ Below base w w' := by
 have hgb : base ≤ g := Kd.R_base h g rfl
 obtain ⟨n, hn⟩ : ∃ n, n = L.length := ⟨_, rfl⟩
 have HN := hid hn
 rw [← hn] at hl h ⊢
 have HR0 : Aside0 (∃ L', L'.Perm L ∧ Kd.R kSlt 132 w base (fun _ => True) (.slice (some ⟨g, 0, none⟩) n cap) L') := ⟨⟨L, List.Perm.refl _, h⟩⟩
 have HB0 : Aside0 (Below base w w) := ⟨Below.refl _ _⟩
 have HSZ := hid hbase
 clear h hn hbase
 go_enter Tryd.func72, Tryd.ntmps72
 go_wp2_with (fail)
 go_loopg [7, 8] n (fun kq v7 v8 w' => ∃ (a : Nat), v7 = .int .i64 a ∧ v8 = .int .i64 ((a : Int) + 20) ∧ a ≤ n ∧ n ≤ a + kq ∧ Aside0 (∃ L', L'.Perm L ∧ Kd.R kSlt 132 w' base (fun _ => True) (.slice (some ⟨g, 0, none⟩) n cap) L') ∧ Aside0 (Below base w w'))
 case atStart => exact ⟨0, rfl, rfl, by omega, by omega, HR0, HB0⟩
 case round =>
  clear HR0 HB0
  obtain ⟨a, rfl, rfl, ha, hk, HR, HB⟩ := hrel
  obtain ⟨L1, hp1, hr1⟩ := HR.out
  have hl1 : L1.length = n := by rw [hp1.length_eq]; exact HN.out.symm
  have HP1 := hid hp1
  have HR1 := Aside0.mk hr1
  have HL1 := hid hl1
  clear hp1 hr1 hl1 HR
  by_cases hlt : a + 20 ≤ n
  ·have d1 : decide ((a : Int) + 20 ≤ (n : Int)) = true := decide_eq_true (by omega)
   have HLT := hid hlt
   have hic := ins_walk g cap base L1 wr a (a + 20) (by rw [HL1.out]; exact HR1.out) (by omega) (by rw [HL1.out]; exact hlt) (by rw [HL1.out]; omega)
   rw [HL1.out, show ((a + 20 : Nat) : Int) = (a : Int) + 20 by omega] at hic
   have HIC := hid hic
   clear hic hlt
   go_wp2_with (fail)
   refine HIC.out.mono ?_
   rintro e w2 ⟨rfl, L2, hp2, hr2, hg2⟩
   have hl2 : L2.length = n := by rw [hp2.length_eq]; exact HL1.out
   rw [hl2] at hr2
   have HR2 : Aside0 (∃ L', L'.Perm L ∧ Kd.R kSlt 132 w2 base (fun _ => True) (.slice (some ⟨g, 0, none⟩) n cap) L') := ⟨⟨L2, hp2.trans HP1.out, hr2⟩⟩
   have HB2 : Aside0 (Below base w w2) := ⟨HB.out.grown hg2 (Nat.le_trans HSZ.out HB.out.size) (fun k hk => by injection hk with hk; rw [← hk]; exact hgb)⟩
   clear hp2 hr2 hg2 hl2
   go_wp2_with (fail)
   go_roundg (n - (a + 20))
   case rel => exact ⟨a + 20, by go_num, by go_num, HLT.out, by have := HLT.out; omega, HR2, HB2⟩
   case measure => have := HLT.out; omega
  ·have d1 : decide ((a : Int) + 20 ≤ (n : Int)) = false := decide_eq_false (by omega)
   have d2 : decide ((20 : Int) < (n : Int)) = false := decide_eq_false (by omega)
   have hic := ins_walk g cap base L1 wr a n (by rw [HL1.out]; exact HR1.out) ha (by rw [HL1.out]; exact Nat.le_refl _) (by rw [HL1.out]; omega)
   rw [HL1.out] at hic
   have HIC := hid hic
   clear hic
   go_wp2_with (fail)
   refine HIC.out.mono ?_
   rintro e w2 ⟨rfl, L2, hp2, hr2, hg2⟩
   have HR2 := Aside0.mk hr2
   have HP2 := hid (hp2.trans HP1.out)
   have HB2 : Aside0 (Below base w w2) := ⟨HB.out.grown hg2 (Nat.le_trans HSZ.out HB.out.size) (fun k hk => by injection hk with hk; rw [← hk]; exact hgb)⟩
   clear hp2 hr2 hg2
   go_wp2_with (fail)
   go_loopg [6] 0 (fun kq v6 w' => v6 = .int .i64 20 ∧ w' = w2)
   case atStart => exact ⟨rfl, rfl⟩
   case round =>
    obtain ⟨rfl, rfl⟩ := hrel
    go_wp2_with (fail)
    go_end0
    exact ⟨rfl, L2, HP2.out, HR2.out, HB2.out⟩
set_option maxHeartbeats 4000000 in
set_option maxRecDepth 100000 in
theorem ins_nil (w : World) : Calls Tryd.prog 84 #[.slice none 0 0, .int .i64 0, .int .i64 0, .func (.func 56) #[] #[]] w fun e w' => e = .returned (.tuple #[]) ∧ w' = w := by
 go_enter Tryd.func84, Tryd.ntmps84
 go_wp2_with (fail)
 go_loopg [8] 0 (fun kq v8 w' => v8 = .int .i64 1 ∧ w' = w)
 case atStart => exact ⟨rfl, rfl⟩
 case round =>
  obtain ⟨rfl, rfl⟩ := hrel
  go_wp2_with (fail)
  go_end0
  exact ⟨rfl, rfl⟩
set_option maxHeartbeats 4000000 in
set_option maxRecDepth 100000 in
theorem stable_nil (w : World) : Calls Tryd.prog 72 #[.slice none 0 0, .int .i64 0, .func (.func 56) #[] #[]] w fun e w' => e = .returned (.tuple #[]) ∧ w' = w := by
 go_enter Tryd.func72, Tryd.ntmps72
 go_wp2_with (fail)
 go_loopg [7, 8] 0 (fun kq v7 v8 w' => v7 = .int .i64 0 ∧ v8 = .int .i64 20 ∧ w' = w)
 case atStart => exact ⟨rfl, rfl, rfl⟩
 case round =>
  obtain ⟨rfl, rfl, rfl⟩ := hrel
  go_wp2_with (fail)
  refine (ins_nil _).mono ?_
  rintro e w2 ⟨rfl, rfl⟩
  go_wp2_with (fail)
  go_loopg [6] 0 (fun kq v6 w' => v6 = .int .i64 20 ∧ w' = w2)
  case atStart => exact ⟨rfl, rfl⟩
  case round =>
   obtain ⟨rfl, rfl⟩ := hrel
   go_wp2_with (fail)
   go_end0
   exact ⟨rfl, rfl⟩
set_option maxHeartbeats 4000000 in
set_option maxRecDepth 100000 in
theorem stableFunc_walk (L : List Slt) (v : Value) (base : Nat) (w : World) (h : Kd.R kSlt 132 w base (fun _ => True) v L) (hbase : base ≤ w.heap.size) (hl : L.length ≤ 20) :
  Calls Tryd.prog 67 #[v, .func (.func 56) #[] #[]] w fun e w' => e = .returned (.tuple #[]) ∧
   ∃ L', L'.Perm L ∧ Kd.R kSlt 132 w' base (fun _ => True) v L' ∧ Below base w w' := by
 obtain ⟨h0, inner, ho, hr⟩ := h
 rcases ho.2 with ⟨hv, hz⟩ | ⟨g, cap, cur, hv, hbg, hh, _⟩
 ·have hz2 : L = [] := List.length_eq_zero_iff.1 hz
  subst hz2 hv
  clear h0 hr ho
  go_enter Tryd.func67, Tryd.ntmps67
  go_wp2_with (fail)
  refine (stable_nil _).mono ?_
  rintro e w2 ⟨rfl, rfl⟩
  go_wp2_with (fail)
  go_end0
  exact ⟨rfl, [], List.Perm.refl _, Kd.R_nil _ _ _ _ _, Below.refl _ _⟩
 ·subst hv
  have HIC := hid (stable_walk g cap base L w ⟨h0, inner, ho, hr⟩ hbase hl)
  clear h0 hr ho hh
  obtain ⟨n, hn⟩ : ∃ n, n = L.length := ⟨_, rfl⟩
  rw [← hn] at HIC ⊢
  have HN := hid hn
  clear hn
  go_enter Tryd.func67, Tryd.ntmps67
  go_wp2_with (fail)
  refine HIC.out.mono ?_
  rintro e w2 ⟨rfl, L2, hp2, hr2, hb2⟩
  have HP2 := hid hp2
  have HR2 := Aside0.mk hr2
  have HB2 := Aside0.mk hb2
  clear hp2 hr2 hb2
  go_wp2_with (fail)
  go_end0
  refine ⟨rfl, L2, HP2.out, ?_, HB2.out⟩
  have h := HR2.out
  rw [HP2.out.length_eq, ← HN.out] at h
  exact h
theorem Slt_empty (W : World) (base : Nat) (hb : base ≤ W.heap.size) : Kd.R kSlt 132 (W.alloc (.cells #[] 132)) base (fun _ => True) (.slice (some ⟨W.heap.size, 0, none⟩) 0 0) [] :=
 ⟨fun _ _ => trivial, [], ⟨rfl, .inr ⟨W.heap.size, 0, #[], rfl, hb, blk_new _ _, by simp, by decide, rfl, rfl⟩⟩, Reps.none _ _⟩
set_option maxHeartbeats 4000000 in
set_option maxRecDepth 100000 in
theorem clone_walk (L : List Slt) (v : Value) (base : Nat) (w : World) (h : Kd.R kSlt 132 w base (fun _ => True) v L) (hl : L.length ≤ 100000) :
  Calls Tryd.prog 66 #[v] w fun e w' => ∃ v', e = .returned v' ∧ Kd.R kSlt 132 w' w.heap.size (fun _ => True) v' L ∧ Below w.heap.size w w' := by
 have hc : ∃ A c, v = .slice A L.length c ∧ L.length ≤ c ∧ kSlt.C w A L.length L := Kd.R_reads h
 obtain ⟨h0, inner, ho, hr⟩ := h
 rcases ho.2 with ⟨hv, hz⟩ | ⟨g, cap, cur, hv, hbg, hh, _⟩
 ·have hz2 : L = [] := List.length_eq_zero_iff.1 hz
  subst hz2 hv
  clear h0 hr ho hc
  have he : ∀ w : World, (binOp .eql 50 (.slice none 0 0) (.slice none 0 0)).run Tryd.prog w = .ok (.bool true) w := fun _ => rfl
  go_enter Tryd.func66, Tryd.ntmps66
  go_wp2_with (fail)
  go_ret
  exact ⟨_, rfl, Kd.R_nil _ _ _ _ _, Below.refl _ _⟩
 ·subst hv
  obtain ⟨A, c, he, hlc, hC⟩ := hc
  cases he
  have HC := Aside0.mk (Kd.C_alloc hC (.cells #[] 132))
  have HE := Aside0.mk (Slt_empty w w.heap.size (Nat.le_refl _))
  have HB := Aside0.mk (below_alloc (Below.refl w.heap.size w) (.cells #[] 132))
  clear h0 hr ho hh hC
  obtain ⟨n, hn⟩ : ∃ n, n = L.length := ⟨_, rfl⟩
  rw [← hn] at HC hlc hl ⊢
  clear hn
  have he : ∀ w : World, (binOp .eql 50 (.slice (some ⟨g, 0, none⟩) n cap) (.slice none 0 0)).run Tryd.prog w = .ok (.bool false) w := fun _ => rfl
  go_enter Tryd.func66, Tryd.ntmps66
  go_wp2_with ((with_reducible refine gate_builtin (b := .append) (xs := #[.tmp 5, .tmp 6]) rfl ?_); at_builtin; refine Kd.R_append_rows kSlt (Rr := kSlt.K (w.alloc (.cells #[] 132))) (w0 := w) w.heap.size rfl (.tmp 5) (.tmp 6) 50 132 (.agg #[.int .i64 0, .int .i64 0, .int .i64 0, .int .i64 0]) 32 rfl Tryd.underlying50 infoSlt rfl (by decide) (by omega) (.slice (some ⟨w.heap.size, 0, none⟩) 0 0) [] L (some ⟨g, 0, none⟩) n cap (fun _ => True) (fun _ => False) rfl rfl HE.out HC.out (fun x cs hk => by rw [kSlt_open hk]; exact kSlt_mkM _ _ _ x) (fun _ hk => hk.elim) (fun _ _ => trivial) HB.out HB.out.size ?aL ?_; (case aL => simp; omega); intro v6 w6 ho hb hg hat; have HO6 := Aside0.mk ho; have HB6 := Aside0.mk hb; clear ho hb hg hat)
  go_ret
  exact ⟨_, rfl, by simpa using HO6.out, HB6.out⟩
set_option maxHeartbeats 4000000 in
set_option maxRecDepth 100000 in
theorem sorted_walk (L : List Slt) (v : Value) (base : Nat) (w : World) (h : Kd.R kSlt 132 w base (fun _ => True) v L) (hl : L.length ≤ 20) :
  Calls Tryd.prog 55 #[v, .func (.func 56) #[] #[]] w fun e w' => ∃ v' L', e = .returned v' ∧ L'.Perm L ∧ Kd.R kSlt 132 w' w.heap.size (fun _ => True) v' L' ∧ Below w.heap.size w w' := by
 have HIC := hid (clone_walk L v base w h (by omega))
 obtain ⟨B, hB⟩ : ∃ B, B = w.heap.size := ⟨_, rfl⟩
 rw [← hB] at HIC ⊢
 have HBE := hid hB
 clear h hB
 go_enter Tryd.func55, Tryd.ntmps55
 go_wp2_with (fail)
 refine HIC.out.mono ?_
 rintro e w2 ⟨v2, rfl, hr2, hb2⟩
 have HB2 := Aside0.mk hb2
 have HSC := hid (stableFunc_walk L v2 B w2 hr2 (by rw [HBE.out]; exact hb2.size) hl)
 clear hr2 hb2 HIC
 go_wp2_with (fail)
 refine HSC.out.mono ?_
 rintro e w3 ⟨rfl, L3, hp3, hr3, hb3⟩
 have HP3 := hid hp3
 have HR3 := Aside0.mk hr3
 have HB3 := Aside0.mk hb3
 clear hp3 hr3 hb3 HSC
 go_wp2_with (fail)
 go_ret
 exact ⟨_, L3, rfl, HP3.out, HR3.out, HB2.out.trans HB3.out⟩
end Go.Proofs.YtiioklboaookiaaDoor.Q
namespace Go.Proofs.YtiioklboaookiaaDoor.Q
open Go.RowKit Go.Proofs.YtiioklboaookiaaDoorW.PrintWords Go.Proofs.YtiioklboaookiaaDoorW.PrintLast Go.Proofs.YtiioklboaookiaaDoor.Hand Go.Proofs.YtiioklboaookiaaDoorW.PrintMore
attribute [local go_sem] max2_int min2_int max_two min_two max_three min_three max_four min_four
set_option linter.unusedVariables false
set_option linter.unusedSimpArgs false
def schedF (M : Nat → Nat → Int) (n : Nat) (ps : List S72) : Nat → List Slt
 | 0 => []
 | k + 1 => schedF M n ps k ++ wrapF M n ps k
theorem schedF_le (M : Nat → Nat → Int) (n : Nat) (ps : List S72) {a b : Nat} (h : a ≤ b) : (schedF M n ps a).length ≤ (schedF M n ps b).length := by
 induction b with
 | zero => rw [show a = 0 by omega]; exact Nat.le_refl _
 | succ b ih =>
  by_cases e : a = b + 1
  ·rw [e]; exact Nat.le_refl _
  ·refine Nat.le_trans (ih (by omega)) ?_
   show _ ≤ (schedF M n ps b ++ wrapF M n ps b).length
   rw [List.length_append]; omega
set_option maxHeartbeats 8000000 in
set_option maxRecDepth 100000 in
theorem sched_walk (pb b : Nat) (A0 : Option Addr) (n c0 nb : Nat) (A1 : Option Addr) (c1 : Nat) (work : Int) (ps : List S72) (mb xb B N cnt : Nat) (M : Nat → Nat → Int) (adj : Nat → List Nat) (vs : Nat → Value) (w : World)
  (hp : ProbAt pb b A0 n c0 (.pointer (some ⟨nb, 0, none⟩)) A1 ps.length c1 work w) (hc : Kd.C k72 w A1 ps.length ps) (hn : NetAt nb mb xb B N cnt M adj vs w) (hn32 : n ≤ 32) (hm : ps.length ≤ 64)
  (hsp : ∀ s, s ∈ ps → 0 ≤ s.f0 ∧ s.f0 < s.f1 ∧ s.f1 ≤ 1000) (hws : ∀ i, i < ps.length → ∀ x, x ∈ worksF M n i → 0 ≤ x) (hT : ∀ i, i < ps.length → (worksF M n i).sum ≤ 10000) (hlen : (schedF M n ps ps.length).length ≤ 20) :
  Calls Tryd.prog 37 #[.pointer (some ⟨pb, 0, none⟩)] w fun e w' => ∃ v L', e = .returned v ∧ L'.Perm (schedF M n ps ps.length) ∧ Kd.R kSlt 132 w' w.heap.size (fun _ => True) v L' ∧ Below w.heap.size w w' := by
 have HP := hid hp
 have HC := Aside0.mk hc
 have HN := hid hn
 have HSP := hid hsp
 have HWS := hid hws
 have HT := hid hT
 have HLEN := hid hlen
 have q3 : w.cell? ⟨pb, 3, none⟩ = some (.slice A1 ps.length c1) := hp.cells.2.2.2.1
 obtain ⟨B0, hB0⟩ : ∃ B0, B0 = w.heap.size := ⟨_, rfl⟩
 rw [← hB0]
 have HBE := hid hB0
 have HL0 : Aside0 (Kd.R kSlt 132 w B0 (fun _ => True) (.slice none 0 0) []) := ⟨Kd.R_nil _ _ _ _ _⟩
 have HB0 : Aside0 (Below B0 w w) := ⟨Below.refl _ _⟩
 clear hp hc hn hsp hws hT hlen hB0
 go_enter Tryd.func37, Tryd.ntmps37
 go_wp2_with (fail)
 clear q3
 go_loopg [3, 10] ps.length (fun kq v3 v10 w' => ∃ (k : Nat), v10 = .int .i64 k ∧ k + kq = ps.length ∧ Aside0 (Kd.R kSlt 132 w' B0 (fun _ => True) v3 (schedF M n ps k)) ∧ Aside0 (Below B0 w w'))
 case atStart => exact ⟨0, rfl, by omega, HL0, HB0⟩
 case round =>
  clear HL0 HB0
  obtain ⟨k, rfl, hk, HL, HB⟩ := hrel
  by_cases hlt : k < ps.length
  ·have d2 : decide ((k : Int) < (ps.length : Int)) = true := decide_eq_true (by omega)
   have HLT := hid hlt
   have hbw := HB.out
   have HP1 := hid (HP.out.below (by rw [← HBE.out]; exact hbw))
   have HC1 := Aside0.mk (Kd.C_below HC.out (by rw [← HBE.out]; exact hbw))
   have HN1 := hid (HN.out.below (by rw [← HBE.out]; exact hbw))
   have hlk : (schedF M n ps k).length + (wrapF M n ps k).length ≤ 20 := by
    have h1 := schedF_le M n ps (a := k + 1) (b := ps.length) (by omega)
    have h2 := HLEN.out
    have h3 : (schedF M n ps (k + 1)).length = (schedF M n ps k).length + (wrapF M n ps k).length := by show (schedF M n ps k ++ wrapF M n ps k).length = _; rw [List.length_append]
    omega
   have HLK := hid hlk
   obtain ⟨Ao, co, eO⟩ := Kd.R_slice HL.out
   obtain ⟨L1, hL1⟩ : ∃ L1, L1 = (schedF M n ps k).length := ⟨_, rfl⟩
   rw [← hL1] at eO
   subst eO
   have HL1 := hid hL1
   clear hL1 hlt hlk hbw
   go_wp2_with (fail)
   refine (wrap_walk pb b A0 n c0 nb A1 c1 work ps mb xb B N cnt M adj vs wr k HP1.out HC1.out HN1.out HLT.out hn32 hm HSP.out (HWS.out k HLT.out) (HT.out k HLT.out)).mono ?_
   rintro e w2 ⟨v2, rfl, hr2, hb2⟩
   obtain ⟨A2, c2, e2⟩ := Kd.R_slice hr2
   obtain ⟨L2, hL2⟩ : ∃ L2, L2 = (wrapF M n ps k).length := ⟨_, rfl⟩
   rw [← hL2] at e2
   subst e2
   have HC2 := Aside0.mk (show Kd.C kSlt w2 A2 L2 (wrapF M n ps k) from by rw [hL2]; exact (Kd.R_reads' hr2).2.2)
   have HL2 := hid hL2
   have HO2 := Aside0.mk (Kd.R_below HL.out hb2)
   have HB2 := Aside0.mk (HB.out.trans (hb2.mono (by rw [HBE.out]; exact HB.out.size)))
   clear hr2 hb2 hL2 HL HB HP1 HC1 HN1
   go_wp2_with ((with_reducible refine gate_builtin (b := .append) (xs := #[.tmp 13, .tmp 16]) rfl ?_); at_builtin; refine Kd.R_append_rows kSlt (Rr := kSlt.K w2) (w0 := w) B0 rfl (.tmp 13) (.tmp 16) 50 132 (.agg #[.int .i64 0, .int .i64 0, .int .i64 0, .int .i64 0]) 32 rfl Tryd.underlying50 infoSlt rfl (by decide) (by omega) (.slice Ao L1 co) (schedF M n ps k) (wrapF M n ps k) A2 L2 c2 (fun _ => True) (fun _ => False) rfl rfl HO2.out HC2.out (fun x cs hk => by rw [kSlt_open hk]; exact kSlt_mkM _ _ _ x) (fun _ hk => hk.elim) (fun _ _ => trivial) HB2.out (by rw [HBE.out]; exact HB2.out.size) ?aL ?_; (case aL => have := HLK.out; rw [← HL2.out] at this; omega); intro v6 w6 ho hb hg hat; have HO6 := Aside0.mk ho; have HB6 := Aside0.mk hb; clear ho hb hg hat)
   go_roundg (ps.length - (k + 1))
   case rel => exact ⟨k + 1, by go_num, by have := HLT.out; omega, HO6, HB6⟩
   case measure => have := HLT.out; omega
  ·have d2 : decide ((k : Int) < (ps.length : Int)) = false := decide_eq_false (by omega)
   have hkm : k = ps.length := by omega
   rw [hkm] at HL
   have HSC := hid (sorted_walk (schedF M n ps ps.length) u3 B0 wr HL.out HLEN.out)
   clear hkm HL
   go_wp2_with (fail)
   refine HSC.out.mono ?_
   rintro e w3 ⟨v3, L3, rfl, hp3, hr3, hb3⟩
   have HP3 := hid hp3
   have HR3 := Aside0.mk hr3
   have HB3 := Aside0.mk hb3
   clear hp3 hr3 hb3 HSC
   go_wp2_with (fail)
   go_ret
   exact ⟨_, L3, rfl, HP3.out, Kd.R_lower HR3.out (by rw [HBE.out]; exact HB.out.size), HB.out.trans (HB3.out.mono (by rw [HBE.out]; exact HB.out.size))⟩
end Go.Proofs.YtiioklboaookiaaDoor.Q
namespace Go.Proofs.YtiioklboaookiaaDoor.Q
open Go.RowKit Go.Proofs.YtiioklboaookiaaDoorW.PrintWords Go.Proofs.YtiioklboaookiaaDoorW.PrintLast Go.Proofs.YtiioklboaookiaaDoor.Hand Go.Proofs.YtiioklboaookiaaDoorW.PrintMore
attribute [local go_sem] max2_int min2_int max_two min_two max_three min_three max_four min_four
set_option linter.unusedVariables false
set_option linter.unusedSimpArgs false
theorem NoneAt.keep {B : Nat} {w w1 : World} (h : NoneAt w) (hb : Below B w w1) (hB : 1 ≤ B) : NoneAt w1 := ⟨(hb.cell (by show 0 < B; omega)).trans h.1, (hb.cell (by show 0 < B; omega)).trans h.2⟩
structure Filled (M M' : Nat → Nat → Int) (N s t : Nat) (sum : Int) : Prop where
 ge : 0 ≤ sum
 pos : ∀ x y, 0 ≤ M' x y
 sym : ∀ x y, M' x y + M' y x = M x y + M y x
 row : ∀ x, x < N → x ≠ s → x ≠ t → rowS M' x N = rowS M x N
 rs : rowS M' s N = rowS M s N - sum
theorem Filled.push {M M' M'' : Nat → Nat → Int} {N s t : Nat} {sum most : Int} (h : Filled M M' N s t sum) (hs : s < N) (hst : t ≠ s) (k : Push M' M'' N s t most) : Filled M M'' N s t (sum + most) where
 ge := by have := h.ge; have := k.ge; omega
 pos := k.pos
 sym := fun x y => by rw [k.sym, h.sym]
 row := fun x hx h1 h2 => by rw [k.row x hx, if_neg h2, if_neg h1, h.row x hx h1 h2]; omega
 rs := by rw [k.row s hs, if_neg (fun e => hst e.symm), if_pos rfl, h.rs]; omega
set_option maxHeartbeats 8000000 in
set_option maxRecDepth 100000 in
theorem nfill_walk (nb mb xb B N n : Nat) (M : Nat → Nat → Int) (adj : Nat → List Nat) (vs : Nat → Value) (w : World) (s t R : Nat) (h : NetAt nb mb xb B N n M adj vs w) (hN : N ≤ 1000) (hs : s < N) (ht : t < N) (hst : t ≠ s) (hz : NoneAt w) (hz0 : 1 ≤ B) (hadj : ∀ i, i < N → ∀ u, u ∈ adj i → u < N) (hlen : ∀ i, (adj i).length < 1000000)
  (hpos : ∀ x y, 0 ≤ M x y) (hbnd : ∀ x y, M x y + M y x ≤ 1000000000) (hR : rowS M s N = (R : Int)) (hR2 : R ≤ 1000000000) (hn : n + 2 * N * (R + 1) < 10000000000) :
  Calls Tryd.prog 31 #[.pointer (some ⟨nb, 0, none⟩), .int .i64 s, .int .i64 t] w fun e w' => ∃ sum M' n', e = .returned (.int .i64 sum) ∧ Filled M M' N s t sum ∧ waysF M' adj N s t = (-1, -1) ∧ NetAt nb mb xb B N n' M' adj vs w' ∧ NetKeep B w w' := by
 have HZ := hid hz
 have HADJ := hid hadj
 have HLEN := hid hlen
 have HBND := hid hbnd
 have HR := hid hR
 have HN := Aside0.mk h
 have HF : Aside0 (Filled M M N s t 0) := ⟨⟨by omega, hpos, fun _ _ => rfl, fun _ _ _ _ => rfl, by omega⟩⟩
 have HK : Aside0 (NetKeep B w w) := ⟨NetKeep.refl _ _⟩
 clear h hz hadj hlen hpos hbnd hR
 go_enter Tryd.func31, Tryd.ntmps31
 go_wp2_with (fail)
 go_loopg [7] R (fun kq v7 w' => ∃ (M2 : Nat → Nat → Int) (sum : Int) (n2 : Nat), v7 = .int .i64 sum ∧ sum + kq = R ∧ n2 + 2 * N * kq ≤ n + 2 * N * R ∧ Aside0 (Filled M M2 N s t sum) ∧ Aside0 (NetAt nb mb xb B N n2 M2 adj vs w') ∧ Aside0 (NetKeep B w w'))
 case atStart => exact ⟨M, 0, n, rfl, by omega, Nat.le_refl _, HF, HN, HK⟩
 case round =>
  clear HF HN HK
  obtain ⟨M2, sum, n2, rfl, hs2, hn2, HF, HN, HK⟩ := hrel
  have hge := HF.out.ge
  go_wp2_with (fail)
  have hmul : 2 * N * (R + 1) = 2 * N * R + 2 * N := Nat.mul_succ _ _
  refine (push_walk nb mb xb B N n2 M2 adj vs wr s t HN.out hN hs ht hst (HZ.out.keep HK.out.bel hz0) HADJ.out HLEN.out HF.out.pos (fun x y => by rw [HF.out.sym]; exact HBND.out x y) (by have := Nat.le_trans (Nat.le_add_right n2 (2 * N * gk)) hn2; omega)).mono ?_
  rintro e w1 (⟨hw, rfl, hb⟩ | ⟨hw, most, M3, rfl, hP, hN3, hK3⟩)
  ·have HW := hid hw
   have HN2 := Aside0.mk (HN.out.below hb)
   have HK2 := Aside0.mk (HK.out.trans (NetKeep.of hb HN.out.base))
   clear hw hb
   go_wp2
   go_ret
   exact ⟨sum, M2, n2, rfl, HF.out, HW.out, HN2.out, HK2.out⟩
  ·have hm1 := hP.ge
   have hr0 : 0 ≤ rowS M3 s N := rowS_nonneg M3 s N (fun u => hP.pos s u)
   have hr1 := (HF.out.push hs hst hP).rs
   rw [HR.out] at hr1
   have HF2 : Aside0 (Filled M M3 N s t (sum + most)) := ⟨HF.out.push hs hst hP⟩
   have HN2 := Aside0.mk hN3
   have HK2 := Aside0.mk (HK.out.trans hK3)
   clear hP hN3 hK3 hw
   have hwr : IntKind.i64.wrap (sum + most) = sum + most := IntWalk.i64_in _ (by omega)
   obtain ⟨k2, hk2⟩ : ∃ k2, k2 = gk - most.toNat := ⟨_, rfl⟩
   have hk3 : k2 + 1 ≤ gk := by omega
   have hmm : 2 * N * (k2 + 1) ≤ 2 * N * gk := Nat.mul_le_mul_left _ hk3
   rw [Nat.mul_succ] at hmm
   go_wp2
   go_roundg k2
   case rel => exact ⟨M3, sum + most, n2 + 2 * N, rfl, by omega, by omega, HF2, HN2, HK2⟩
   case measure => omega
end Go.Proofs.YtiioklboaookiaaDoor.Q
namespace Go.Proofs.YtiioklboaookiaaDoor.Q
open Go.RowKit Go.Proofs.YtiioklboaookiaaDoorW.PrintWords Go.Proofs.YtiioklboaookiaaDoorW.PrintLast Go.Proofs.YtiioklboaookiaaDoor.Hand Go.Proofs.YtiioklboaookiaaDoorW.PrintMore
attribute [local go_sem] max2_int min2_int max_two min_two max_three min_three max_four min_four
set_option linter.unusedVariables false
set_option linter.unusedSimpArgs false
theorem sumN_split (f : Nat → Int) (n m : Nat) : sumN f (2 + n + m) = f 0 + sumN (fun k => f (1 + k)) n + sumN (fun i => f (1 + n + i)) m + f (1 + n + m) := by
 rw [show 2 + n + m = 1 + n + m + 1 by omega]
 show sumN f (1 + n + m) + f (1 + n + m) = _
 rw [sumN_add, sumN_add]
 have : sumN f 1 = f 0 := by show 0 + f 0 = f 0; omega
 rw [this]
def capF (l : List S34) (ps : List S72) (k i : Nat) : Int := (l[k]?.bind fun j => spanM j ps i).getD 0
def wF (l : List S34) (k : Nat) : Int := (l[k]?.map fun j => j.f2).getD 0
def lenF (ps : List S72) (i : Nat) : Int := (ps[i]?.map fun s => s.f1 - s.f0).getD 0
theorem sum_wF (l : List S34) : sumN (wF l) l.length = workF l := by
 unfold workF
 have h := sumN_get (⟨0, 0, 0⟩ : S34) (fun j => j.f2) l
 rw [← h]
 refine sumN_congr fun k hk => ?_
 unfold wF
 rw [List.getElem?_eq_getElem hk, List.getD_eq_getElem?_getD, List.getElem?_eq_getElem hk]; rfl
structure Flow (b : Nat) (l : List S34) (ps : List S72) (M : Nat → Nat → Int) (sum : Int) : Prop where
 ge : ∀ k i, k < l.length → i < ps.length → 0 ≤ M (1 + l.length + i) (1 + k)
 cap : ∀ k i, k < l.length → i < ps.length → 0 ≤ M (1 + k) (1 + l.length + i) ∧ M (1 + l.length + i) (1 + k) + M (1 + k) (1 + l.length + i) = capF l ps k i
 job : ∀ k, k < l.length → 0 ≤ M 0 (1 + k) ∧ M 0 (1 + k) + sumN (fun i => M (1 + l.length + i) (1 + k)) ps.length = wF l k
 part : ∀ i, i < ps.length → 0 ≤ M (1 + l.length + i) (1 + l.length + ps.length) ∧ sumN (fun k => M (1 + l.length + i) (1 + k)) l.length + M (1 + l.length + i) (1 + l.length + ps.length) = b * lenF ps i
 all : sumN (fun k => M 0 (1 + k)) l.length = workF l - sum
theorem probG_src (b : Nat) (l : List S34) (ps : List S72) (k : Nat) (hk : k < l.length) : (probG b l ps).1 0 (1 + k) = wF l k := by
 rw [probG_M, if_neg (by omega), if_pos rfl, if_pos (by omega), Nat.add_sub_cancel_left]; rfl
theorem probG_job (b : Nat) (l : List S34) (ps : List S72) (k i : Nat) (hk : k < l.length) (_hi : i < ps.length) : (probG b l ps).1 (1 + k) (1 + l.length + i) = capF l ps k i := by
 rw [probG_M, if_neg (by omega), if_neg (by omega), if_pos (by omega), Nat.add_sub_cancel_left, Nat.add_sub_cancel_left]; rfl
theorem probG_end (b : Nat) (l : List S34) (ps : List S72) (i : Nat) (hi : i < ps.length) : (probG b l ps).1 (1 + l.length + i) (1 + l.length + ps.length) = b * lenF ps i := by
 rw [probG_M, if_pos ⟨rfl, by omega, by omega⟩, Nat.add_sub_cancel_left]
 unfold lenF
 rw [List.getElem?_eq_getElem hi]; rfl
theorem probG_no (b : Nat) (l : List S34) (ps : List S72) (u v : Nat) (h1 : u = 0 → v = 0 ∨ l.length < v) (h2 : 1 ≤ u → u ≤ l.length → v ≤ l.length ∨ l.length + ps.length < v)
  (h3 : l.length < u → v ≠ 1 + l.length + ps.length ∨ l.length + ps.length < u) : (probG b l ps).1 u v = 0 := by
 rw [probG_M]
 have hno : ∀ {α β : Type} (x : Option α) (f : α → Option β) (d : β), x = none → (x.bind f).getD d = d := fun x f d h => by rw [h]; rfl
 by_cases c1 : v = 1 + l.length + ps.length ∧ 1 + l.length ≤ u ∧ u < 1 + l.length + ps.length
 ·rcases h3 (by omega) with h | h
  ·exact absurd c1.1 h
  ·omega
 ·rw [if_neg c1]
  by_cases c2 : u = 0
  ·rw [if_pos c2]
   by_cases c3 : 1 ≤ v
   ·rw [if_pos c3, List.getElem?_eq_none (show l.length ≤ v - 1 by have := h1 c2; omega)]; rfl
   ·rw [if_neg c3]
  ·rw [if_neg c2]
   by_cases c3 : 1 + l.length ≤ v
   ·rw [if_pos c3]
    by_cases c4 : u ≤ l.length
    ·have := h2 (by omega) c4
     rw [List.getElem?_eq_getElem (show u - 1 < l.length by omega)]
     show (spanM _ ps (v - (1 + l.length))).getD 0 = 0
     unfold spanM
     exact hno _ _ _ (List.getElem?_eq_none (by omega))
    ·exact hno _ _ _ (List.getElem?_eq_none (by omega))
   ·rw [if_neg c3]
theorem Flow.of {b : Nat} {l : List S34} {ps : List S72} {M' : Nat → Nat → Int} {sum : Int} (h : Filled (probG b l ps).1 M' (2 + l.length + ps.length) 0 (1 + l.length + ps.length) sum) : Flow b l ps M' sum := by
 obtain ⟨n, hn⟩ : ∃ n, n = l.length := ⟨_, rfl⟩
 obtain ⟨m, hm⟩ : ∃ m, m = ps.length := ⟨_, rfl⟩
 have s1 : ∀ k, k < n → (probG b l ps).1 0 (1 + k) = wF l k := fun k hk => probG_src b l ps k (by omega)
 have s2 : ∀ k i, k < n → i < m → (probG b l ps).1 (1 + k) (1 + n + i) = capF l ps k i := fun k i hk hi => by rw [hn]; exact probG_job b l ps k i (by omega) (by omega)
 have s3 : ∀ i, i < m → (probG b l ps).1 (1 + n + i) (1 + n + m) = b * lenF ps i := fun i hi => by rw [hn, hm]; exact probG_end b l ps i (by omega)
 have no : ∀ u v, (u = 0 → v = 0 ∨ n < v) → (1 ≤ u → u ≤ n → v ≤ n ∨ n + m < v) → (n < u → v ≠ 1 + n + m ∨ n + m < u) → (probG b l ps).1 u v = 0 := fun u v h1 h2 h3 => probG_no b l ps u v (by omega) (by omega) (by omega)
 have hsum := sum_wF l
 obtain ⟨M, hM⟩ : ∃ M, M = (probG b l ps).1 := ⟨_, rfl⟩
 rw [← hM] at s1 s2 s3 no h
 rw [← hn, ← hm] at h
 have zero : ∀ u v, M u v = 0 → M v u = 0 → M' u v = 0 := fun u v h1 h2 => by
  have a := h.sym u v; have b := h.pos u v; have c := h.pos v u
  rw [h1, h2] at a; omega
 have rj : ∀ k, k < n → M' (1 + k) 0 = sumN (fun i => M' (1 + n + i) (1 + k)) m := fun k hk => by
  have r := h.row (1 + k) (by omega) (by omega) (by omega)
  rw [rowS_sumN, rowS_sumN, sumN_split, sumN_split] at r
  rw [sumN_zero (f := fun k' => M' (1 + k) (1 + k')) (fun k' hk' => zero _ _ (no _ _ (by omega) (by omega) (by omega)) (no _ _ (by omega) (by omega) (by omega))),
   sumN_zero (f := fun k' => M (1 + k) (1 + k')) (fun k' hk' => no _ _ (by omega) (by omega) (by omega)),
   zero (1 + k) (1 + n + m) (no _ _ (by omega) (by omega) (by omega)) (no _ _ (by omega) (by omega) (by omega)), no (1 + k) (1 + n + m) (by omega) (by omega) (by omega), no (1 + k) 0 (by omega) (by omega) (by omega)] at r
  have e : sumN (fun i => M (1 + k) (1 + n + i)) m - sumN (fun i => M' (1 + k) (1 + n + i)) m = sumN (fun i => M' (1 + n + i) (1 + k)) m := by
   rw [← sumN_sub]
   refine sumN_congr fun i hi => ?_
   have a := h.sym (1 + n + i) (1 + k)
   rw [no (1 + n + i) (1 + k) (by omega) (by omega) (by omega)] at a
   omega
  omega
 refine ⟨fun k i _ _ => ?_, fun k i hk hi => ?_, fun k hk => ?_, fun i hi => ?_, ?_⟩
 ·exact h.pos _ _
 ·refine ⟨h.pos _ _, ?_⟩
  rw [← hn]
  have a := h.sym (1 + n + i) (1 + k)
  rw [no (1 + n + i) (1 + k) (by omega) (by omega) (by omega), s2 k i (by omega) (by omega)] at a
  omega
 ·refine ⟨h.pos _ _, ?_⟩
  rw [← hn, ← hm]
  have a := h.sym 0 (1 + k)
  rw [s1 k (by omega), no (1 + k) 0 (by omega) (by omega) (by omega), rj k (by omega)] at a
  omega
 ·refine ⟨h.pos _ _, ?_⟩
  rw [← hn, ← hm]
  have r := h.row (1 + n + i) (by omega) (by omega) (by omega)
  rw [rowS_sumN, rowS_sumN, sumN_split, sumN_split] at r
  rw [sumN_zero (f := fun k' => M (1 + n + i) (1 + k')) (fun k' hk' => no _ _ (by omega) (by omega) (by omega)),
   sumN_zero (f := fun i' => M (1 + n + i) (1 + n + i')) (fun i' hi' => no _ _ (by omega) (by omega) (by omega)),
   sumN_zero (f := fun i' => M' (1 + n + i) (1 + n + i')) (fun i' hi' => zero _ _ (no _ _ (by omega) (by omega) (by omega)) (no _ _ (by omega) (by omega) (by omega))),
   zero (1 + n + i) 0 (no _ _ (by omega) (by omega) (by omega)) (no _ _ (by omega) (by omega) (by omega)), no (1 + n + i) 0 (by omega) (by omega) (by omega), s3 i (by omega)] at r
  omega
 ·have r := h.rs
  rw [rowS_sumN, rowS_sumN, sumN_split, sumN_split] at r
  rw [sumN_zero (f := fun i' => M 0 (1 + n + i')) (fun i' hi' => no _ _ (by omega) (by omega) (by omega)),
   sumN_zero (f := fun i' => M' 0 (1 + n + i')) (fun i' hi' => zero _ _ (no _ _ (by omega) (by omega) (by omega)) (no _ _ (by omega) (by omega) (by omega))),
   zero 0 (1 + n + m) (no _ _ (by omega) (by omega) (by omega)) (no _ _ (by omega) (by omega) (by omega)), no 0 (1 + n + m) (by omega) (by omega) (by omega),
   zero 0 0 (no _ _ (by omega) (by omega) (by omega)) (no _ _ (by omega) (by omega) (by omega)), no 0 0 (by omega) (by omega) (by omega),
   sumN_congr (f := fun k => M 0 (1 + k)) (g := wF l) (fun k hk => s1 k hk)] at r
  rw [← hn] at hsum ⊢
  rw [hsum] at r
  omega
theorem probG_row (b : Nat) (l : List S34) (ps : List S72) : rowS (probG b l ps).1 0 (2 + l.length + ps.length) = workF l := by
 have no : ∀ u v, (u = 0 → v = 0 ∨ l.length < v) → (1 ≤ u → u ≤ l.length → v ≤ l.length ∨ l.length + ps.length < v) → (l.length < u → v ≠ 1 + l.length + ps.length ∨ l.length + ps.length < u) → (probG b l ps).1 u v = 0 := probG_no b l ps
 rw [rowS_sumN, sumN_split, sumN_zero (f := fun i' => (probG b l ps).1 0 (1 + l.length + i')) (fun i' hi' => no _ _ (by omega) (by omega) (by omega)), no 0 0 (by omega) (by omega) (by omega), no 0 (1 + l.length + ps.length) (by omega) (by omega) (by omega),
  sumN_congr (f := fun k => (probG b l ps).1 0 (1 + k)) (g := wF l) (fun k hk => probG_src b l ps k hk), sum_wF]
 omega
theorem probG_bnd (b : Nat) (l : List S34) (ps : List S72) (hb : b ≤ 8) (hl : ∀ j, j ∈ l → jobOk j = true) (hp : ∀ s, s ∈ ps → 0 ≤ s.f1 - s.f0 ∧ s.f1 - s.f0 ≤ 1000) (u v : Nat) : 0 ≤ (probG b l ps).1 u v ∧ (probG b l ps).1 u v ≤ 8000 := by
 have hsp : ∀ (j : S34) (q : Nat), 0 ≤ (spanM j ps q).getD 0 ∧ (spanM j ps q).getD 0 ≤ 8000 := fun j q => by
  unfold spanM
  cases hq : ps[q]? with
  | none => exact ⟨Int.le_refl _, by show (0 : Int) ≤ 8000; omega⟩
  | some s =>
   have := hp s (List.mem_of_getElem? hq)
   show 0 ≤ (if fits j s = true then some (s.f1 - s.f0) else none).getD 0 ∧ (if fits j s = true then some (s.f1 - s.f0) else none).getD 0 ≤ 8000
   by_cases hf : fits j s = true
   ·rw [if_pos hf]; show 0 ≤ s.f1 - s.f0 ∧ s.f1 - s.f0 ≤ 8000; omega
   ·rw [if_neg hf]; exact ⟨Int.le_refl _, by show (0 : Int) ≤ 8000; omega⟩
 rw [probG_M]
 split
 ·cases hq : ps[u - (1 + l.length)]? with
  | none => exact ⟨Int.le_refl _, by show (0 : Int) ≤ 8000; omega⟩
  | some s =>
   have h := hp s (List.mem_of_getElem? hq)
   show 0 ≤ (b : Int) * (s.f1 - s.f0) ∧ (b : Int) * (s.f1 - s.f0) ≤ 8000
   refine ⟨Int.mul_nonneg (by omega) h.1, ?_⟩
   have := Int.mul_le_mul (show (b : Int) ≤ 8 by omega) h.2 h.1 (by omega)
   omega
 ·split
  ·split
   ·cases hq : l[v - 1]? with
    | none => exact ⟨Int.le_refl _, by show (0 : Int) ≤ 8000; omega⟩
    | some j =>
     obtain ⟨h1, h2, h3, h4, h5⟩ := of_decide_eq_true (hl j (List.mem_of_getElem? hq))
     show 0 ≤ j.f2 ∧ j.f2 ≤ 8000
     omega
   ·omega
  ·split
   ·cases hq : l[u - 1]? with
    | none => exact ⟨Int.le_refl _, by show (0 : Int) ≤ 8000; omega⟩
    | some j => exact hsp j _
   ·omega
theorem one_window {b : Nat} {d : Int} {l : List S34} {M : Nat → Nat → Int} {sum : Int} {R : Nat → Prop} (h : Flow b l [⟨0, d⟩] M sum) (hl : ∀ j, j ∈ l → j.f0 = 0 ∧ j.f1 = d ∧ 0 ≤ j.f2) (hR0 : R 0) (hRl : ¬ R (1 + l.length + 1)) (hR : ∀ v u, v < 2 + l.length + 1 → R v → 0 < M v u → R u) :
  sum = workF l ↔ (∀ j, j ∈ l → j.f2 ≤ d) ∧ workF l ≤ b * d := by
 have hcap : ∀ k, k < l.length → capF l [⟨0, d⟩] k 0 = d := fun k hk => by
  obtain ⟨h1, h2, _⟩ := hl _ (List.getElem_mem hk)
  unfold capF spanM fits
  rw [List.getElem?_eq_getElem hk]
  show (if decide ((l[k]).f0 ≤ 0 ∧ d ≤ (l[k]).f1) = true then some (d - 0) else none).getD 0 = d
  rw [if_pos (by rw [h1, h2]; simp)]
  show d - 0 = d
  omega
 have hw : ∀ k (hk : k < l.length), wF l k = (l[k]).f2 := fun k hk => by unfold wF; rw [List.getElem?_eq_getElem hk]; rfl
 have one : ∀ f : Nat → Int, sumN f [(⟨0, d⟩ : S72)].length = f 0 := fun f => by show 0 + f 0 = f 0; omega
 have job : ∀ k, k < l.length → 0 ≤ M 0 (1 + k) ∧ M 0 (1 + k) + M (1 + l.length + 0) (1 + k) = wF l k := fun k hk => by have := h.job k hk; rw [one] at this; exact this
 have cap : ∀ k, k < l.length → 0 ≤ M (1 + k) (1 + l.length + 0) ∧ M (1 + l.length + 0) (1 + k) + M (1 + k) (1 + l.length + 0) = d := fun k hk => by have := h.cap k 0 hk (by simp); rw [hcap k hk] at this; exact this
 obtain ⟨p1, p2⟩ := h.part 0 (by simp)
 have hlen : lenF [(⟨0, d⟩ : S72)] 0 = d := by show d - 0 = d; omega
 rw [hlen] at p2
 have htot : sumN (fun k => M (1 + l.length + 0) (1 + k)) l.length = sum := by
  have e : sumN (fun k => M (1 + l.length + 0) (1 + k)) l.length = sumN (wF l) l.length - sumN (fun k => M 0 (1 + k)) l.length := by
   rw [← sumN_sub]
   exact sumN_congr fun k hk => by have := (job k hk).2; omega
  rw [e, sum_wF, h.all]; omega
 constructor
 ·intro hs
  have hz : ∀ k, k < l.length → M 0 (1 + k) = 0 := sumN_at (f := fun k => M 0 (1 + k)) (fun k hk => (job k hk).1) (by rw [h.all]; omega)
  refine ⟨fun j hj => ?_, ?_⟩
  ·obtain ⟨k, hk, rfl⟩ := List.getElem_of_mem hj
   have a := (job k hk).2; have b := cap k hk; have c := hz k hk; have e := hw k hk
   omega
  ·rw [← hs, ← htot]; omega
 ·rintro ⟨h1, h2⟩
  by_cases hs : sum = workF l
  ·exact hs
  ·exfalso
   have hex : ∃ k, k < l.length ∧ 0 < M 0 (1 + k) := by
    by_cases hc : ∃ k, k < l.length ∧ 0 < M 0 (1 + k)
    ·exact hc
    ·exfalso
     have h0 := h.all
     rw [sumN_zero (f := fun k => M 0 (1 + k)) (fun k hk => by
      have := (job k hk).1
      by_cases e : 0 < M 0 (1 + k)
      ·exact absurd ⟨k, hk, e⟩ hc
      ·omega)] at h0
     omega
   obtain ⟨k, hk, hpos⟩ := hex
   have hle : 0 ≤ workF l - sum := by rw [← h.all]; exact sumN_nonneg fun k hk => (job k hk).1
   have r1 := hR 0 (1 + k) (by omega) hR0 hpos
   have a := (job k hk).2; have b' := cap k hk; have e := hw k hk; have f := h1 _ (List.getElem_mem hk)
   have r2 := hR (1 + k) (1 + l.length + 0) (by omega) r1 (by omega)
   have r3 := hR (1 + l.length + 0) (1 + l.length + 1) (by omega) r2 (by
    have p2' : sumN (fun k => M (1 + l.length + 0) (1 + k)) l.length + M (1 + l.length + 0) (1 + l.length + 1) = (b : Int) * d := p2
    omega)
   exact hRl r3
end Go.Proofs.YtiioklboaookiaaDoor.Q
namespace Go.Proofs.YtiioklboaookiaaDoor.Q
open Go.RowKit Go.Proofs.YtiioklboaookiaaDoorW.PrintWords Go.Proofs.YtiioklboaookiaaDoorW.PrintLast Go.Proofs.YtiioklboaookiaaDoor.Hand Go.Proofs.YtiioklboaookiaaDoorW.PrintMore
attribute [local go_sem] max2_int min2_int max_two min_two max_three min_three max_four min_four
set_option linter.unusedVariables false
set_option linter.unusedSimpArgs false
theorem sumN_range (f : Nat → Int) (n : Nat) : ((List.range n).map f).sum = sumN f n := by
 induction n with
 | zero => rfl
 | succ n ih => rw [List.range_succ, List.map_append, List.sum_append, ih]; simp [sumN]
theorem workF_bnd : ∀ (l : List S34), (∀ x, x ∈ l → jobOk x = true) → 0 ≤ workF l ∧ workF l ≤ 1000 * (l.length : Int)
 | [], _ => by unfold workF; simp
 | a :: l, h => by
  obtain ⟨h1, h2, h3, h4, h5⟩ := of_decide_eq_true (h a List.mem_cons_self)
  obtain ⟨g1, g2⟩ := workF_bnd l (fun x hx => h x (List.mem_cons_of_mem _ hx))
  have e : workF (a :: l) = a.f2 + workF l := by unfold workF; rw [List.map_cons, List.sum_cons]
  rw [e, List.length_cons]
  omega
structure Cut (b : Nat) (l : List S34) (M : Nat → Nat → Int) (sum : Int) : Prop where
 flow : Flow b l (spansF l) M sum
 cut : ∃ R : Nat → Prop, R 0 ∧ ¬ R (1 + l.length + (spansF l).length) ∧ ∀ v u, v < 2 + l.length + (spansF l).length → R v → 0 < M v u → R u
theorem Cut.window {b : Nat} {d : Int} {l : List S34} {M : Nat → Nat → Int} {sum : Int} (h : Cut b l M sum) (hd : 0 < d) (hl : ∀ j, j ∈ l → j.f0 = 0 ∧ j.f1 = d ∧ 0 ≤ j.f2) : sum = workF l ↔ (∀ j, j ∈ l → j.f2 ≤ d) ∧ workF l ≤ b * d := by
 by_cases hne : l = []
 ·subst hne
  have h0 := h.flow.all
  have e1 : workF ([] : List S34) = 0 := rfl
  have e2 : sumN (fun k => M 0 (1 + k)) ([] : List S34).length = 0 := rfl
  rw [e1, e2] at h0
  have h3 : sum = 0 := by omega
  rw [e1, h3]
  have : 0 ≤ (b : Int) * d := Int.mul_nonneg (by omega) (by omega)
  exact ⟨fun _ => ⟨fun j hj => absurd hj (by simp), this⟩, fun _ => rfl⟩
 ·have hs := spans_window l d hne (fun j hj => ⟨(hl j hj).1, (hl j hj).2.1⟩) hd
  obtain ⟨R, r1, r2, r3⟩ := h.cut
  have hf := h.flow
  rw [hs] at hf r2 r3
  exact one_window hf hl r1 r2 r3
theorem spans_len (l : List S34) (hl : l.length ≤ 32) : (spansF l).length ≤ 64 := by
 unfold spansF pairsF timesF Lib.compact Lib.compactUpTo
 rw [List.length_map, List.length_range, List.length_map]
 refine Nat.le_trans (Nat.sub_le _ _) (Nat.le_trans (List.length_filter_le _ _) ?_)
 rw [List.length_range, List.length_mergeSort, timesR_length]; omega
theorem fill_prob (b : Nat) (l : List S34) (hb : b ≤ 8) (hl : l.length ≤ 32) (hv : ∀ x, x ∈ l → jobOk x = true) (nb mb xb B cnt : Nat) (vs : Nat → Value) (w : World)
  (h : NetAt nb mb xb B (2 + l.length + (spansF l).length) cnt (probG b l (spansF l)).1 (probG b l (spansF l)).2 vs w) (hcnt : cnt ≤ 10000) (hz : NoneAt w) (hB : 1 ≤ B) :
  Calls Tryd.prog 31 #[.pointer (some ⟨nb, 0, none⟩), .int .i64 0, .int .i64 ((1 + l.length + (spansF l).length : Nat) : Int)] w fun e w' => ∃ sum M' n', e = .returned (.int .i64 sum) ∧ Cut b l M' sum ∧
   NetAt nb mb xb B (2 + l.length + (spansF l).length) n' M' (probG b l (spansF l)).2 vs w' ∧ NetKeep B w w' := by
 have hm := spans_len l hl
 have hsp := spansF_ok l hv
 have hbd := probG_bnd b l (spansF l) hb hv (fun s hs => by have := hsp s hs; omega)
 have hok := probG_ok b l (spansF l)
 obtain ⟨hw0, hw1⟩ := workF_bnd l hv
 have hR : rowS (probG b l (spansF l)).1 0 (2 + l.length + (spansF l).length) = ((workF l).toNat : Int) := by rw [probG_row]; omega
 have hlen : ∀ i, ((probG b l (spansF l)).2 i).length < 1000000 := fun i => by
  have h1 := hok.len i
  have h2 : l.length * (2 + 2 * (spansF l).length) ≤ 32 * 130 := Nat.mul_le_mul hl (by omega)
  omega
 have hadj : ∀ i, i < 2 + l.length + (spansF l).length → ∀ u, u ∈ (probG b l (spansF l)).2 i → u < 2 + l.length + (spansF l).length := fun i _ u hu => hok.low i u hu
 have hnum : cnt + 2 * (2 + l.length + (spansF l).length) * ((workF l).toNat + 1) < 10000000000 := by
  have : 2 * (2 + l.length + (spansF l).length) * ((workF l).toNat + 1) ≤ 196 * 32001 := Nat.mul_le_mul (by omega) (by omega)
  omega
 refine (nfill_walk nb mb xb B (2 + l.length + (spansF l).length) cnt (probG b l (spansF l)).1 (probG b l (spansF l)).2 vs w 0 (1 + l.length + (spansF l).length) (workF l).toNat h (by omega) (by omega) (by omega) (by omega) hz hB hadj hlen (fun x y => (hbd x y).1) (fun x y => by have := (hbd x y).2; have := (hbd y x).2; omega) hR (by omega) hnum).mono ?_
 rintro e w1 ⟨sum, M', n', rfl, hF, hW, hN, hK⟩
 refine ⟨sum, M', n', rfl, ⟨Flow.of hF, ?_⟩, hN, hK⟩
 obtain ⟨⟨d, hT⟩, hcl⟩ := waysF_tree M' (probG b l (spansF l)).2 (2 + l.length + (spansF l).length) 0 (by omega) hadj
 refine ⟨fun v => waysF M' (probG b l (spansF l)).2 (2 + l.length + (spansF l).length) 0 v ≠ (-1, -1), ?_, fun h => h hW, fun v u hv hw hm => ?_⟩
 ·show waysF M' _ _ 0 0 ≠ _
  rw [hT.1]; exact noWay_at
 ·refine hcl v hv hw u ?_ hm
  have h1 := hF.sym v u
  have h2 := hF.pos u v
  by_cases e1 : (probG b l (spansF l)).1 v u = 0
  ·exact (hok.arc u v (by omega)).2
  ·exact (hok.arc v u e1).1
theorem Cut.works {b : Nat} {l : List S34} {M : Nat → Nat → Int} {sum : Int} (h : Cut b l M sum) (hb : b ≤ 8) (hv : ∀ x, x ∈ l → jobOk x = true) (i : Nat) (hi : i < (spansF l).length) : (∀ x, x ∈ worksF M l.length i → 0 ≤ x) ∧ (worksF M l.length i).sum ≤ 8000 := by
 refine ⟨fun x hx => ?_, ?_⟩
 ·unfold worksF at hx
  obtain ⟨k, hk, rfl⟩ := List.mem_map.1 hx
  exact h.flow.ge k i (List.mem_range.1 hk) hi
 ·unfold worksF
  rw [sumN_range]
  obtain ⟨h1, h2⟩ := h.flow.part i hi
  have h3 : lenF (spansF l) i ≤ 1000 ∧ 0 ≤ lenF (spansF l) i := by
   unfold lenF
   rw [List.getElem?_eq_getElem hi]
   have := spansF_ok l hv _ (List.getElem_mem hi)
   show (spansF l)[i].f1 - (spansF l)[i].f0 ≤ 1000 ∧ 0 ≤ (spansF l)[i].f1 - (spansF l)[i].f0
   omega
  have h4 := Int.mul_le_mul (show (b : Int) ≤ 8 by omega) h3.1 h3.2 (by omega)
  omega
end Go.Proofs.YtiioklboaookiaaDoor.Q
