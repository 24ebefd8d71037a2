/- A part of the proof: what the law's row needs. -/
import Derived.Deep.QuietTactic
import Derived.BigQuiet
import Derived.Test.YtiioklboaookiaaGreatDoorV11
namespace Go.Proofs.YtiioklboaookiaaGreatDoor.Q
open Go.RowKit Go.Proofs.YtiioklboaookiaaGreatDoorW.PrintWords Go.Proofs.YtiioklboaookiaaGreatDoorW.PrintLast Go.Proofs.YtiioklboaookiaaGreatDoor.Hand Go.Proofs.YtiioklboaookiaaGreatDoorW.PrintMore
attribute [local go_sem] max2_int min2_int max_two min_two max_three min_three max_four min_four
set_option linter.unusedVariables false
set_option linter.unusedSimpArgs false
def encF (l : List S34) : List Int := l.flatMap fun s => [s.f0, s.f1]
theorem encF_length (l : List S34) : (encF l).length = 2 * l.length := by
 induction l with
 | nil => rfl
 | cons a l ih => unfold encF at ih ⊢; rw [List.flatMap_cons, List.length_append, ih, List.length_cons]; simp; omega
theorem encF_app (l m : List S34) : encF (l ++ m) = encF l ++ encF m := by unfold encF; rw [List.flatMap_append]
theorem step_take (l : List S34) (k : Nat) (h : k < l.length) : l.take (k + 1) = l.take k ++ [rd_T34 l (k : Int)] := by
 rw [List.take_add_one, List.getElem?_eq_getElem h]
 unfold rd_T34
 rw [Int.toNat_natCast, List.getD_eq_getElem?_getD, List.getElem?_eq_getElem h]; rfl
theorem encF_take (l : List S34) (k : Nat) (h : k < l.length) : encF (l.take (k + 1)) = encF (l.take k) ++ [(rd_T34 l (k : Int)).f0, (rd_T34 l (k : Int)).f1] := by
 rw [step_take l k h, encF_app]; rfl
theorem encF_get : ∀ (l : List S34) (k : Nat), k < l.length → (encF l)[2 * k]? = some (rd_T34 l (k : Int)).f0 ∧ (encF l)[2 * k + 1]? = some (rd_T34 l (k : Int)).f1
 | [], k, h => by simp at h
 | a :: l, 0, h => ⟨rfl, rfl⟩
 | a :: l, k + 1, h => by
  have := encF_get l k (by simpa using h)
  have e : rd_T34 (a :: l) ((k + 1 : Nat) : Int) = rd_T34 l (k : Int) := by unfold rd_T34; rw [Int.toNat_natCast, Int.toNat_natCast]; rfl
  rw [e]
  exact this
theorem stp_mem {l : List S34} (k : Nat) (h : k < l.length) : rd_T34 l (k : Int) ∈ l := by
 unfold rd_T34; rw [Int.toNat_natCast, List.getD_eq_getElem?_getD, List.getElem?_eq_getElem h]; exact List.getElem_mem h
theorem infoByte : (Tryz.prog.info? 5).map (fun i => (i.zero, i.size, i.bytes)) = some (some (.int .u8 0), 1, 1) := by kernel_rfl
theorem infoStp : (Tryz.prog.info? 34).map (fun i => (i.zero, i.size, i.bytes)) = some (some (.agg #[.int .i64 0, .int .i64 0]), 2, 16) := by kernel_rfl
theorem two_row8 (W : World) (a b : Int) (t : TypeId) : ReadsRow (fun (x : Int) (cs : List Value) => cs = [.int .u8 x]) 1 (W.alloc (.cells #[.int .u8 a, .int .u8 b] t)) (some ⟨W.heap.size, 0, none⟩) 2 [a, b] := by
 refine ⟨rfl, by omega, fun _ => ⟨_, rfl, fun j p hj => ⟨[.int .u8 p], rfl, rfl, fun i u hu => ?_⟩⟩⟩
 match j, i with
 | 0, 0 => cases hj; cases hu; rw [show (⟨W.heap.size, 0, none⟩ : Addr).add (0 * 1 + 0) = ⟨W.heap.size, 0, none⟩ from rfl, World.cell?_alloc_new]; rfl
 | 1, 0 => cases hj; cases hu; rw [show (⟨W.heap.size, 0, none⟩ : Addr).add (1 * 1 + 0) = ⟨W.heap.size, 1, none⟩ from rfl, World.cell?_alloc_new]; rfl
 | j + 2, _ => simp at hj
 | _, i + 1 => simp at hu
theorem wrap_u8_in {x : Int} (h0 : 0 ≤ x) (h1 : x < 256) : IntKind.u8.wrap x = x := by
 simp [IntKind.wrap, IntKind.signed, IntKind.bits]; try omega
theorem str_idx {P : Program} (w : World) (t : TypeId) (ht : P.underlying t = some .string) (B : List Int) (j : Nat) (x : Int) (hj : B[j]? = some x) (h0 : 0 ≤ x) (h1 : x < 256) :
  (Instr.index t (.string (strOfNums B)) (.int .i64 (j : Int))).run P w = .ok (.int .u8 x) w := by
 obtain ⟨hlt, he⟩ := List.getElem?_eq_some_iff.1 hj
 have hs : (strOfNums B)[j]? = some (UInt8.ofNat x.toNat) := by
  have hsz : j < (strOfNums B).size := by rw [strOfNums_size]; exact hlt
  rw [getElem?_pos (strOfNums B) j hsz]
  congr 1
  show (strOfNums B).data[j] = _
  simp [strOfNums, he]
 have hx : ((UInt8.ofNat x.toNat).toNat : Int) = x := by
  rw [UInt8.toNat_ofNat']
  omega
 simp [Instr.index, asIntOf, run_underlying ht, hs, hx]
 try omega
theorem tc_nums {i k n : Nat} (h : i = 2 * k) (hk : k < n) (hn : n ≤ 8192) : i + 2 = 2 * (k + 1) ∧ i + 2 ≤ 20000 ∧ k + 1 + (n - (k + 1)) = n ∧ wrap64 ((i : Int) + 1) = (i : Int) + 1 ∧ wrap64 ((i : Int) + 2) = ((i + 2 : Nat) : Int) ∧ decide ((i : Int) + 1 < 2 * (n : Int)) = true := by
 refine ⟨by omega, by omega, by omega, w64_in _ (by omega) (by omega), ?_, decide_eq_true (by omega)⟩
 rw [w64_in _ (by omega) (by omega)]; omega
theorem tc_len {l : List S34} (k : Nat) (h : l.length ≤ 8192) : (l.take k).length ≤ 20000 ∧ (l.take k).length < 20001 := by rw [List.length_take]; omega
set_option maxHeartbeats 8000000 in
set_option maxRecDepth 100000 in
theorem counted_walk (W0 H0 : Int) (A0 : Option Addr) (c0 : Nat) (l : List S76) (q : Int) (A1 : Option Addr) (c1 : Nat) (l1 : List Chg) (w : World) (hr : Kd.C k76 w A0 l.length l) (hc : l.length ≤ c0) (hr1 : Kd.C kChg w A1 l1.length l1) (hb : ∀ x, x ∈ l1 → 0 ≤ x.f1 ∧ x.f1 ≤ 255) (hz : NoneAt w) :
  Calls Tryz.prog 3 #[.agg #[.int .i64 W0, .int .i64 H0, .slice A0 l.length c0], .int .i64 q, .slice A1 l1.length c1] w fun e w' => e = .returned (.bool true) ∧ Below w.heap.size w w' := by
 obtain ⟨kt, W, H, r0, ht, hW0, hW, hH0, hH, hl0, hbl⟩ := task_spec 12 8 W0 H0 l (by omega) (by omega) (by omega)
 have hv : ∀ x, x ∈ r0 → blankOk x = true := fun x hx => (hbl x hx).ok (by omega)
 obtain ⟨r, hp, hrl, hr0, hsb, s, ar, hrd⟩ := best_plan r0 (by omega) W H hW0 (by omega) hH0 (by omega)
 obtain ⟨j, hj, hjn⟩ := tmod_nat q 13 (by omega) (by omega)
 have HJ := hid hj
 have HTK := hid (silversidetop_task.calls kt W0 H0 A0 c0 l 12 8 W H r0 (w.alloc (.cells #[.int .i64 W0, .int .i64 H0, .slice A0 l.length c0] 24)) (Kd.C_below hr (below_alloc (Below.refl _ _) _)) hc ht)
 have HR1 := Aside0.mk hr1
 have HB1 := hid hb
 have HV := hid hv
 have HP := hid hp
 have HSB := hid hsb
 have HRD := hid hrd
 have HZ := hid hz
 have HBX := Aside0.mk (below_alloc (Below.refl w.heap.size w) (.cells #[.int .i64 W0, .int .i64 H0, .slice A0 l.length c0] 24))
 clear hr hc hr1 hb hz ht hbl hv hp hsb hrd hj
 go_enter Tryz.func3, Tryz.ntmps3
 go_wp2_with (fail)
 refine HTK.out.mono ?_
 rintro e w1 ⟨v2, rfl, hr2, hb2⟩
 obtain ⟨A2, c2, e2⟩ := Kd.R_slice hr2
 subst e2
 have HR2 := Aside0.mk (Kd.R_reads' hr2).2.2
 have HBW1 := Aside0.mk (HBX.out.trans (hb2.mono HBX.out.size))
 clear hr2 hb2 HTK HBX
 go_wp2_with (fail)
 obtain ⟨W2, hW2⟩ : ∃ W2, W2 = w1.alloc (.cells #[.int .i64 W, .int .i64 H, .slice A2 r0.length c2] 24) := ⟨_, rfl⟩
 have HA2 := hid (show W2.heap[w1.heap.size]? = some (.cells #[.int .i64 W, .int .i64 H, .slice A2 r0.length c2] 24 (0, 0)) by rw [hW2]; exact blk_new _ _)
 have HBW2 := Aside0.mk (show Below w.heap.size w W2 by rw [hW2]; exact below_alloc HBW1.out _)
 have HR22 := Aside0.mk (show Kd.C k76 W2 A2 r0.length r0 by rw [hW2]; exact Kd.C_below HR2.out (below_alloc (Below.refl _ _) _))
 obtain ⟨tb, htb⟩ : ∃ tb, tb = w1.heap.size := ⟨_, rfl⟩
 rw [← htb] at HA2
 rw [← hW2, ← htb]
 clear hW2 htb HBW1 HR2
 refine (Best_walk 98 W H A2 c2 r0 r W2 hW0 (by omega) hH0 (by omega) (by omega) HR22.out HV.out HP.out).mono ?_
 rintro e w3 ⟨v0, v1, rfl, hr3, hb3⟩
 obtain ⟨A3, c3, e3⟩ := Kd.R_slice hr3
 subst e3
 have HC3 := Aside0.mk (Kd.R_reads' hr3).2.2
 have HA3 := hid (show w3.heap[tb]? = some (.cells #[.int .i64 W, .int .i64 H, .slice A2 r0.length c2] 24 (0, 0)) from (hb3.block tb (lt_of_some HA2.out)).trans HA2.out)
 have HBL3 := Aside0.mk (Kd.C_below HR22.out hb3)
 have HBW3 := Aside0.mk (HBW2.out.trans (hb3.mono HBW2.out.size))
 clear hr3 hb3 HA2 HR22 HBW2
 go_wp2_with (fail)
 have HN0 := Aside0.mk (Kd.R_nil (Kd.int .u8) 5 w3 w3.heap.size (fun _ => True))
 go_loopg [11, 12] r.length (fun kq v11 v12 w' => ∃ (k : Nat), v12 = .int .i64 k ∧ k + kq = r.length ∧ Aside0 (Kd.R (Kd.int .u8) 5 w' w3.heap.size (fun _ => True) v11 (encF (r.take k))) ∧ Aside0 (Below w3.heap.size w3 w'))
 case atStart => exact ⟨0, rfl, by omega, HN0, ⟨Below.refl _ _⟩⟩
 case round =>
  clear HN0
  obtain ⟨k, rfl, hk, HO, HB⟩ := hrel
  obtain ⟨A5, c5, eR⟩ := Kd.R_slice HO.out
  by_cases hlt : k < r.length
  ·have d1 : decide ((k : Int) < (r.length : Int)) = true := decide_eq_true (by omega)
   obtain ⟨ad, e0, hx0, hx1⟩ := at_T34 HC3.out (k : Int) (by omega) (by omega)
   rw [Int.toNat_natCast] at hx0 hx1
   have D0 := hid (And.intro hx0 hx1)
   replace hx0 := (HB.out.cell (World.block_lt_of_cell? _ _ hx0)).trans hx0
   replace hx1 := (HB.out.cell (World.block_lt_of_cell? _ _ hx1)).trans hx1
   cases e0
   have hlt' : (k : Int) < (r.length : Int) := by omega
   have k0 : (0 : Int) ≤ (k : Int) := by omega
   have HTT := hid (encF_take r k hlt)
   have HLT := hid hlt
   obtain ⟨s0, s1, s2, s3⟩ := HSB.out _ (stp_mem k hlt)
   obtain ⟨x, hx⟩ : ∃ x, x = rd_T34 r (k : Int) := ⟨_, rfl⟩
   rw [← hx] at hx0 hx1 D0 HTT s0 s1 s2 s3
   clear hx hlt
   have u0 : IntKind.u8.wrap x.f0 = x.f0 := wrap_u8_in s0 (by omega)
   have u1 : IntKind.u8.wrap x.f1 = x.f1 := wrap_u8_in s2 s3
   have HN := hid (show (encF (r.take k)).length ≤ 20000 by rw [encF_length, List.length_take]; omega)
   obtain ⟨L5, hL5⟩ : ∃ L5, L5 = (encF (r.take k)).length := ⟨_, rfl⟩
   rw [← hL5] at eR HN
   subst eR
   have HL5 := hid hL5
   clear hL5 s0 s1 s2 s3
   have C0 := hid (And.intro hx0 hx1)
   have hc0 : wr.drew.cell? (ad.add (k * 2)) = some (.int .i64 x.f0) ∧ wr.drew.cell? ⟨(ad.add (k * 2)).block, (ad.add (k * 2)).off + 1, none⟩ = some (.int .i64 x.f1) := ⟨hx0, hx1⟩
   have C1 := hid hc0
   clear hc0
   go_wp2_with (fail)
   refine start_ (n := 16) (S := fun w' => w'.cell? (ad.add (k * 2)) = some (.int .i64 x.f0) ∧ w'.cell? ⟨(ad.add (k * 2)).block, (ad.add (k * 2)).off + 1, none⟩ = some (.int .i64 x.f1)) (ds := []) #[false, false, false, false, false, false, false, false, false, false, false, false, false, false, false, false] (by kernel_rfl) rfl rfl C1.out (fun hHeld => ?_)
   refine pure_ (i := 0) (N := some 42) (v := ?_) (a' := ?_) #[true, false, false, false, false, false, false, false, false, false, false, false, false, false, false, false] rfl rfl (by kernel_rfl) (fun _ _ _ h => h) (Or.inl ⟨by rfl, ?_⟩) ?_ ?_
   rotate_left
   ·intro w'
    go_simp
    with_reducible rfl
   rotate_left
   ·simp only [Act.put, List.setIfInBounds_toArray, List.set_cons_zero, List.set_cons_succ, i64_w, i32_w]
    rfl
   refine pure_ (i := 1) (N := some 43) (v := ?_) (a' := ?_) #[true, true, false, false, false, false, false, false, false, false, false, false, false, false, false, false] rfl rfl (by kernel_rfl) (fun _ _ _ h => h) (Or.inl ⟨by rfl, ?_⟩) ?_ ?_
   rotate_left
   ·intro w'
    go_simp
    with_reducible rfl
   rotate_left
   ·simp only [Act.put, List.setIfInBounds_toArray, List.set_cons_zero, List.set_cons_succ, i64_w, i32_w]
    rfl
   refine pure_ (i := 2) (N := some 44) (v := ?_) (a' := ?_) #[true, true, true, false, false, false, false, false, false, false, false, false, false, false, false, false] rfl rfl (by kernel_rfl) (fun _ _ _ h => h) (Or.inl ⟨by rfl, ?_⟩) ?_ ?_
   rotate_left
   ·intro w'
    go_simp
    with_reducible rfl
   rotate_left
   ·simp only [Act.put, List.setIfInBounds_toArray, List.set_cons_zero, List.set_cons_succ, i64_w, i32_w]
    rfl
   refine pure_ (i := 3) (N := some 45) (v := ?_) (a' := ?_) #[true, true, true, true, false, false, false, false, false, false, false, false, false, false, false, false] rfl rfl (by kernel_rfl) (fun _ _ _ h => h) (Or.inl ⟨by rfl, ?_⟩) ?_ ?_
   rotate_left
   ·intro w'
    go_simp
    with_reducible rfl
   rotate_left
   ·simp only [Act.put, List.setIfInBounds_toArray, List.set_cons_zero, List.set_cons_succ, i64_w, i32_w]
    rfl
   refine pure_ (i := 4) (N := some 46) (v := ?_) (a' := ?_) #[true, true, true, true, true, false, false, false, false, false, false, false, false, false, false, false] rfl rfl (by kernel_rfl) (fun _ _ _ h => h) (Or.inl ⟨by rfl, ?_⟩) ?_ ?_
   rotate_left
   ·intro w'
    go_simp
    with_reducible rfl
   rotate_left
   ·simp only [Act.put, List.setIfInBounds_toArray, List.set_cons_zero, List.set_cons_succ, i64_w, i32_w]
    rfl
   refine pure_ (i := 7) (N := some 49) (v := ?_) (a' := ?_) #[true, true, true, true, true, false, false, true, false, false, false, false, false, false, false, false] rfl rfl (by kernel_rfl) (fun _ _ _ h => h) (Or.inl ⟨by rfl, ?_⟩) ?_ ?_
   rotate_left
   ·intro w'
    go_simp
    with_reducible rfl
   rotate_left
   ·simp only [Act.put, List.setIfInBounds_toArray, List.set_cons_zero, List.set_cons_succ, i64_w, i32_w]
    rfl
   refine pure_ (i := 8) (N := some 50) (v := ?_) (a' := ?_) #[true, true, true, true, true, false, false, true, true, false, false, false, false, false, false, false] rfl rfl (by kernel_rfl) (fun _ _ _ h => h) (Or.inl ⟨by rfl, ?_⟩) ?_ ?_
   rotate_left
   ·intro w'
    go_simp
    with_reducible rfl
   rotate_left
   ·simp only [Act.put, List.setIfInBounds_toArray, List.set_cons_zero, List.set_cons_succ, i64_w, i32_w]
    rfl
   refine pure_ (i := 9) (N := some 51) (v := ?_) (a' := ?_) #[true, true, true, true, true, false, false, true, true, true, false, false, false, false, false, false] rfl rfl (by kernel_rfl) (fun _ _ _ h => h) (Or.inl ⟨by rfl, ?_⟩) ?_ ?_
   rotate_left
   ·intro w'
    go_simp
    with_reducible rfl
   rotate_left
   ·simp only [Act.put, List.setIfInBounds_toArray, List.set_cons_zero, List.set_cons_succ, i64_w, i32_w]
    rfl
   refine pure_ (i := 10) (N := some 52) (v := ?_) (a' := ?_) #[true, true, true, true, true, false, false, true, true, true, true, false, false, false, false, false] rfl rfl (by kernel_rfl) (fun _ _ _ h => h) (Or.inl ⟨by rfl, ?_⟩) ?_ ?_
   rotate_left
   ·intro w'
    go_simp
    with_reducible rfl
   rotate_left
   ·simp only [Act.put, List.setIfInBounds_toArray, List.set_cons_zero, List.set_cons_succ, i64_w, i32_w]
    rfl
   refine take_ (i := 5) (N := some 47) (v := ?_) (a' := ?_) #[true, true, true, true, true, true, false, true, true, true, true, false, false, false, false, false] rfl rfl (by kernel_rfl) (fun _ _ _ h => h) (Or.inl ⟨by rfl, ?_⟩) hHeld ?_ ?_
   rotate_left
   ·rintro w' ⟨s0, s1⟩
    go_simp
    with_reducible rfl
   rotate_left
   ·simp only [Act.put, List.setIfInBounds_toArray, List.set_cons_zero, List.set_cons_succ, i64_w, i32_w]
    rfl
   refine take_ (i := 11) (N := some 53) (v := ?_) (a' := ?_) #[true, true, true, true, true, true, false, true, true, true, true, true, false, false, false, false] rfl rfl (by kernel_rfl) (fun _ _ _ h => h) (Or.inl ⟨by rfl, ?_⟩) hHeld ?_ ?_
   rotate_left
   ·rintro w' ⟨s0, s1⟩
    go_simp
    with_reducible rfl
   rotate_left
   ·simp only [Act.put, List.setIfInBounds_toArray, List.set_cons_zero, List.set_cons_succ, i64_w, i32_w]
    rfl
   refine pure_ (i := 6) (N := some 48) (v := ?_) (a' := ?_) #[true, true, true, true, true, true, true, true, true, true, true, true, false, false, false, false] rfl rfl (by kernel_rfl) (fun _ _ _ h => h) (Or.inl ⟨by rfl, ?_⟩) ?_ ?_
   rotate_left
   ·intro w'
    go_simp
    with_reducible rfl
   rotate_left
   ·simp only [Act.put, List.setIfInBounds_toArray, List.set_cons_zero, List.set_cons_succ, i64_w, i32_w]
    rfl
   refine pure_ (i := 12) (N := some 54) (v := ?_) (a' := ?_) #[true, true, true, true, true, true, true, true, true, true, true, true, true, false, false, false] rfl rfl (by kernel_rfl) (fun _ _ _ h => h) (Or.inl ⟨by rfl, ?_⟩) ?_ ?_
   rotate_left
   ·intro w'
    go_simp
    with_reducible rfl
   rotate_left
   ·simp only [Act.put, List.setIfInBounds_toArray, List.set_cons_zero, List.set_cons_succ, i64_w, i32_w]
    rfl
   refine one_ (i := 13) (N := some 55) #[true, true, true, true, true, true, true, true, true, true, true, true, true, true, false, false] rfl rfl (by kernel_rfl) (by decide) (fun K hK => ?_)
   refine value_ (w1 := ?_) (v := ?_) (by rfl) rfl ?_ ?_
   rotate_left 2
   ·go_simp
    first | (refine ⟨?_, ?_⟩ <;> rfl) | rfl
   refine hK.out _ _ ⟨pw_cell_below (below_alloc (Below.refl _ _) _) C1.out.1, pw_cell_below (below_alloc (Below.refl _ _) _) C1.out.2⟩ (fun hHeld => ?_)
   clear hK K
   refine norm_ (a' := ?_) ?_ ?_
   rotate_left
   ·show Act.put _ (some 55) _ = _
    simp only [Act.put, List.setIfInBounds_toArray, List.set_cons_zero, List.set_cons_succ, i64_w, i32_w]
    rfl
   refine one_ (i := 14) (N := some 56) #[true, true, true, true, true, true, true, true, true, true, true, true, true, true, true, false] rfl rfl (by kernel_rfl) (by decide) (fun K hK => ?_)
   refine Kd.R_append_rows_step (Kd.int .u8) (Rr := fun x cs => cs = [.int .u8 x]) (w0 := w3) w3.heap.size (by rfl) (.tmp 42) (.tmp 55) 32 5 (.int .u8 0) 1 rfl Tryz.underlying32 infoByte rfl (by decide) (by omega) (.slice A5 L5 c5) (encF (r.take k)) [x.f0, x.f1] (some ⟨wr.drew.heap.size, 0, none⟩) 2 2 (fun _ => True) (fun _ => False) rfl rfl (Kd.R_alloc (Kd.R_drew HO.out) _) (two_row8 wr.drew x.f0 x.f1 5) (fun x cs h => h) (fun _ hk => hk.elim) (fun _ _ => trivial) (below_alloc HB.out.drew _) ?aS ?aL ?_
   (case aS => have := HB.out.size; simp; omega)
   (case aL => have := HN.out; rw [← HL5.out]; omega)
   intro v6 w6 ho hb hg hat
   have HO6 := Aside0.mk ho
   have HB6 := Aside0.mk hb
   clear ho hb hg hat
   refine hK.out _ _ ⟨(HB6.out.cell (World.block_lt_of_cell? _ _ D0.out.1)).trans D0.out.1, (HB6.out.cell (World.block_lt_of_cell? _ _ D0.out.2)).trans D0.out.2⟩ (fun hHeld => ?_)
   clear hK K
   refine norm_ (a' := ?_) ?_ ?_
   rotate_left
   ·show Act.put _ (some 56) _ = _
    simp only [Act.put, List.setIfInBounds_toArray, List.set_cons_zero, List.set_cons_succ, i64_w, i32_w]
    rfl
   refine pure_ (i := 15) (N := some 11) (v := ?_) (a' := ?_) #[true, true, true, true, true, true, true, true, true, true, true, true, true, true, true, true] rfl rfl (by kernel_rfl) (fun _ _ _ h => h) (Or.inl ⟨by rfl, ?_⟩) ?_ ?_
   rotate_left
   ·intro w'
    go_simp
    with_reducible rfl
   rotate_left
   ·simp only [Act.put, List.setIfInBounds_toArray, List.set_cons_zero, List.set_cons_succ, i64_w, i32_w]
    rfl
   refine done_ (by kernel_rfl) ?_
   clear C0 C1 D0
   go_wp2
   go_roundg (r.length - (k + 1))
   case rel => exact ⟨k + 1, by go_num, by have := HLT.out; omega, ⟨by rw [HTT.out]; exact HO6.out⟩, HB6⟩
   case measure => have := HLT.out; omega
  ·have d1 : decide ((k : Int) < (r.length : Int)) = false := decide_eq_false (by omega)
   have htk : r.take k = r := List.take_of_length_le (by omega)
   rw [htk] at HO eR
   have hen : (encF r).length = 2 * r.length := encF_length r
   subst eR
   have HCB := Aside0.mk (Kd.R_reads' HO.out).2.2
   obtain ⟨L5, hL5⟩ : ∃ L5, L5 = (encF r).length := ⟨_, rfl⟩
   rw [← hL5] at HCB ⊢
   obtain ⟨st, hst⟩ : ∃ st, st = strOfNums (encF r) := ⟨_, rfl⟩
   have hcv : ∀ w', Below wr.heap.size wr w' → (convert 32 9 (.slice A5 L5 c5)).run Tryz.prog w' = .ok (.string st) w' := fun w' h => by
    rw [hst]; exact Kd.C_string Tryz.underlying32 Tryz.underlying5 Tryz.underlying9 (Kd.C_below HCB.out h)
   have HCV := hid hcv
   have hss : st.size = 2 * r.length := by rw [hst, strOfNums_size, hen]
   have HSS := hid hss
   have HST := hid hst
   have HBW := Aside0.mk (HBW3.out.trans (HB.out.mono HBW3.out.size))
   have HA6 := hid (show wr.heap[tb]? = some (.cells #[.int .i64 W, .int .i64 H, .slice A2 r0.length c2] 24 (0, 0)) from (HB.out.block tb (lt_of_some HA3.out)).trans HA3.out)
   have HC6 := Aside0.mk (Kd.C_below HC3.out HB.out)
   have HBL6 := Aside0.mk (Kd.C_below HBL3.out HB.out)
   clear htk hen hL5 hst hcv hss HO HB HCB HA3 HC3 HBL3 HBW3
   go_wp2_with (fail)
   refine start_ (n := 11) (S := fun w' => (convert 32 9 (.slice A5 L5 c5)).run Tryz.prog w' = .ok (.string st) w' ∧ True) (ds := []) #[false, false, false, false, false, false, false, false, false, false, false] (by kernel_rfl) rfl rfl ⟨HCV.out _ (below_drew1 (Below.refl _ _)), trivial⟩ (fun hHeld => ?_)
   refine pure_ (i := 0) (N := some 58) (v := ?_) (a' := ?_) #[true, false, false, false, false, false, false, false, false, false, false] rfl rfl (by kernel_rfl) (fun _ _ _ h => h) (Or.inl ⟨by rfl, ?_⟩) ?_ ?_
   rotate_left
   ·intro w'
    go_simp
    with_reducible rfl
   rotate_left
   ·simp only [Act.put, List.setIfInBounds_toArray, List.set_cons_zero, List.set_cons_succ, i64_w, i32_w]
    rfl
   refine pure_ (i := 2) (N := some 60) (v := ?_) (a' := ?_) #[true, false, true, false, false, false, false, false, false, false, false] rfl rfl (by kernel_rfl) (fun _ _ _ h => h) (Or.inl ⟨by rfl, ?_⟩) ?_ ?_
   rotate_left
   ·intro w'
    go_simp
    with_reducible rfl
   rotate_left
   ·simp only [Act.put, List.setIfInBounds_toArray, List.set_cons_zero, List.set_cons_succ, i64_w, i32_w]
    rfl
   refine pure_ (i := 4) (N := some 62) (v := ?_) (a' := ?_) #[true, false, true, false, true, false, false, false, false, false, false] rfl rfl (by kernel_rfl) (fun _ _ _ h => h) (Or.inl ⟨by rfl, ?_⟩) ?_ ?_
   rotate_left
   ·intro w'
    go_simp
    with_reducible rfl
   rotate_left
   ·simp only [Act.put, List.setIfInBounds_toArray, List.set_cons_zero, List.set_cons_succ, i64_w, i32_w]
    rfl
   refine take_ (i := 1) (N := some 59) (v := ?_) (a' := ?_) #[true, true, true, false, true, false, false, false, false, false, false] rfl rfl (by kernel_rfl) (fun _ _ _ h => h) (Or.inl ⟨by rfl, ?_⟩) hHeld ?_ ?_
   rotate_left
   ·rintro w' ⟨s0, s1⟩
    go_simp
    with_reducible rfl
   rotate_left
   ·simp only [Act.put, List.setIfInBounds_toArray, List.set_cons_zero, List.set_cons_succ, i64_w, i32_w]
    rfl
   refine one_ (i := 3) (N := some 61) #[true, true, true, true, true, false, false, false, false, false, false] rfl rfl (by kernel_rfl) (by decide) (fun K hK => ?_)
   refine goes_ Tryz.func10 (by kernel_rfl) rfl #[.int .i64 q, .int .i64 13] (by rfl) rfl rfl (by (try simp only [List.map_toArray, List.map_cons, List.map_nil]); first | done | rfl) ?_
   refine (silversidetop_mod.calls q 13 (j : Int) _ HJ.out).mono ?_
   rintro e w4 ⟨rfl, ⟨nd, rfl⟩⟩
   refine ⟨_, rfl, ?_⟩
   refine hK.out _ _ ⟨HCV.out _ (pw_below_drewN (below_drew1 (Below.refl _ _)) nd), trivial⟩ (fun hHeld => ?_)
   clear hK K
   refine norm_ (a' := ?_) ?_ ?_
   rotate_left
   ·show Act.put _ (some 61) _ = _
    simp only [Act.put, List.setIfInBounds_toArray, List.set_cons_zero, List.set_cons_succ, i64_w, i32_w]
    rfl
   refine one_ (i := 5) (N := some 63) #[true, true, true, true, true, true, false, false, false, false, false] rfl rfl (by kernel_rfl) (by decide) (fun K hK => ?_)
   refine goes_ Tryz.func9 (by kernel_rfl) rfl #[.string st, .int .i64 (j : Int), .slice A1 l1.length c1] (by rfl) rfl rfl (by (try simp only [List.map_toArray, List.map_cons, List.map_nil]); first | done | rfl) ?_
   refine (carried_walk st j A1 c1 l1 _ (Kd.C_below HR1.out (pw_below_drewN HBW.out.drew nd)) HB1.out (by rw [HSS.out]; omega) (by omega)).mono ?_
   rintro e w5 ⟨rfl, hb5⟩
   have HB5 := Aside0.mk ((pw_below_drewN (below_drew1 (Below.refl wr.heap.size wr)) nd).trans (hb5.mono (pw_below_drewN (below_drew1 (Below.refl wr.heap.size wr)) nd).size))
   clear hb5
   refine ⟨_, rfl, ?_⟩
   refine hK.out _ _ ⟨HCV.out _ HB5.out, trivial⟩ (fun hHeld => ?_)
   clear hK K
   refine norm_ (a' := ?_) ?_ ?_
   rotate_left
   ·show Act.put _ (some 63) _ = _
    simp only [Act.put, List.setIfInBounds_toArray, List.set_cons_zero, List.set_cons_succ, i64_w, i32_w]
    rfl
   refine pure_ (i := 6) (N := some 57) (v := ?_) (a' := ?_) #[true, true, true, true, true, true, true, false, false, false, false] rfl rfl (by kernel_rfl) (fun _ _ _ h => h) (Or.inl ⟨by rfl, ?_⟩) ?_ ?_
   rotate_left
   ·intro w'
    go_simp
    with_reducible rfl
   rotate_left
   ·simp only [Act.put, List.setIfInBounds_toArray, List.set_cons_zero, List.set_cons_succ, i64_w, i32_w]
    rfl
   refine pure_ (i := 7) (N := some 64) (v := ?_) (a' := ?_) #[true, true, true, true, true, true, true, true, false, false, false] rfl rfl (by kernel_rfl) (fun _ _ _ h => h) (Or.inl ⟨by rfl, ?_⟩) ?_ ?_
   rotate_left
   ·intro w'
    go_simp
    with_reducible rfl
   rotate_left
   ·simp only [Act.put, List.setIfInBounds_toArray, List.set_cons_zero, List.set_cons_succ, i64_w, i32_w]
    rfl
   refine pure_ (i := 8) (N := some 65) (v := ?_) (a' := ?_) #[true, true, true, true, true, true, true, true, true, false, false] rfl rfl (by kernel_rfl) (fun _ _ _ h => h) (Or.inl ⟨by rfl, ?_⟩) ?_ ?_
   rotate_left
   ·intro w'
    go_simp
    with_reducible rfl
   rotate_left
   ·simp only [Act.put, List.setIfInBounds_toArray, List.set_cons_zero, List.set_cons_succ, i64_w, i32_w]
    rfl
   refine pure_ (i := 9) (N := some 13) (v := ?_) (a' := ?_) #[true, true, true, true, true, true, true, true, true, true, false] rfl rfl (by kernel_rfl) (fun _ _ _ h => h) (Or.inl ⟨by rfl, ?_⟩) ?_ ?_
   rotate_left
   ·intro w'
    go_simp
    with_reducible rfl
   rotate_left
   ·simp only [Act.put, List.setIfInBounds_toArray, List.set_cons_zero, List.set_cons_succ, i64_w, i32_w]
    rfl
   refine pure_ (i := 10) (N := some 14) (v := ?_) (a' := ?_) #[true, true, true, true, true, true, true, true, true, true, true] rfl rfl (by kernel_rfl) (fun _ _ _ h => h) (Or.inl ⟨by rfl, ?_⟩) ?_ ?_
   rotate_left
   ·intro w'
    go_simp
    with_reducible rfl
   rotate_left
   ·simp only [Act.put, List.setIfInBounds_toArray, List.set_cons_zero, List.set_cons_succ, i64_w, i32_w]
    rfl
   refine done_ (by kernel_rfl) ?_
   have HBW5 := Aside0.mk (HBW.out.trans (HB5.out.mono HBW.out.size))
   have HA5 := hid (show w5.heap[tb]? = some (.cells #[.int .i64 W, .int .i64 H, .slice A2 r0.length c2] 24 (0, 0)) from (HB5.out.block tb (lt_of_some HA6.out)).trans HA6.out)
   have HC5 := Aside0.mk (Kd.C_below HC6.out HB5.out)
   have HBL5 := Aside0.mk (Kd.C_below HBL6.out HB5.out)
   clear HA6 HC6 HBL6 HB5 HCV HBW
   have hsi : (st.size : Int) = 2 * (r.length : Int) := by have := HSS.out; omega
   clear d1
   go_wp2_with (fail)
   have HN0 := Aside0.mk (Kd.R_nil k34 34 w5 w5.heap.size (fun _ => True))
   go_loopg [15, 16] r.length (fun kq v15 v16 w' => ∃ (k i : Nat), v16 = .int .i64 i ∧ Aside0 (i = 2 * k) ∧ k + kq = r.length ∧ i ≤ 20000 ∧ Aside0 (Kd.R k34 34 w' w5.heap.size (fun _ => True) v15 (r.take k)) ∧ Aside0 (Below w5.heap.size w5 w'))
   case atStart => exact ⟨0, 0, rfl, ⟨rfl⟩, by omega, by omega, HN0, ⟨Below.refl _ _⟩⟩
   case round =>
    clear HN0
    obtain ⟨k, i, rfl, HI, hk, hi, HO, HB⟩ := hrel
    obtain ⟨A7, c7, eR⟩ := Kd.R_slice HO.out
    by_cases hlt : k < r.length
    ·obtain ⟨q1, q2, q3, wi, q5, d1⟩ := tc_nums HI.out hlt hrl
     have HI2 := Aside0.mk q1
     have HI3 := hid q2
     have HI4 := hid q3
     have HI5 := hid q5
     have HN := hid (tc_len (l := r) k hrl).1
     clear q1 q2 q3 q5
     have HLT := hid hlt
     obtain ⟨g0, g1⟩ := encF_get r k hlt
     have HTT := hid (step_take r k hlt)
     obtain ⟨s0, s1, s2, s3⟩ := HSB.out _ (stp_mem k hlt)
     obtain ⟨x, hx⟩ : ∃ x, x = rd_T34 r (k : Int) := ⟨_, rfl⟩
     rw [← hx, ← HI.out] at g0 g1
     rw [← hx] at HTT s0 s1 s2 s3
     have i0 : ∀ w', (Instr.index 9 (.string st) (.int .i64 (i : Int))).run Tryz.prog w' = .ok (.int .u8 x.f0) w' := fun w' => by
      rw [HST.out]; exact str_idx w' 9 Tryz.underlying9 _ i x.f0 g0 s0 (by omega)
     have i1 : ∀ w', (Instr.index 9 (.string st) (.int .i64 ((i : Int) + 1))).run Tryz.prog w' = .ok (.int .u8 x.f1) w' := fun w' => by
      rw [HST.out]; exact str_idx w' 9 Tryz.underlying9 _ (i + 1) x.f1 g1 s2 s3
     have u0 : wrap64 x.f0 = x.f0 := w64_in _ (by omega) (by omega)
     have u1 : wrap64 x.f1 = x.f1 := w64_in _ (by omega) (by omega)
     obtain ⟨L7, hL7⟩ : ∃ L7, L7 = (r.take k).length := ⟨_, rfl⟩
     rw [← hL7] at eR HN
     subst eR
     have HL7 := hid hL7
     clear hL7 s0 s1 s2 s3 g0 g1 hlt hx
     go_wp2_with (fail)
     refine start_ (n := 14) (S := fun w' => True ∧ True) (ds := []) #[false, false, false, false, false, false, false, false, false, false, false, false, false, false] (by kernel_rfl) rfl rfl ⟨trivial, trivial⟩ (fun hHeld => ?_)
     refine pure_ (i := 0) (N := some 83) (v := ?_) (a' := ?_) #[true, false, false, false, false, false, false, false, false, false, false, false, false, false] rfl rfl (by kernel_rfl) (fun _ _ _ h => h) (Or.inl ⟨by rfl, ?_⟩) ?_ ?_
     rotate_left
     ·intro w'
      go_simp
      with_reducible rfl
     rotate_left
     ·simp only [Act.put, List.setIfInBounds_toArray, List.set_cons_zero, List.set_cons_succ, i64_w, i32_w]
      rfl
     refine pure_ (i := 1) (N := some 84) (v := ?_) (a' := ?_) #[true, true, false, false, false, false, false, false, false, false, false, false, false, false] rfl rfl (by kernel_rfl) (fun _ _ _ h => h) (Or.inl ⟨by rfl, ?_⟩) ?_ ?_
     rotate_left
     ·intro w'
      go_simp
      with_reducible rfl
     rotate_left
     ·simp only [Act.put, List.setIfInBounds_toArray, List.set_cons_zero, List.set_cons_succ, i64_w, i32_w]
      rfl
     refine pure_ (i := 2) (N := some 85) (v := ?_) (a' := ?_) #[true, true, true, false, false, false, false, false, false, false, false, false, false, false] rfl rfl (by kernel_rfl) (fun _ _ _ h => h) (Or.inl ⟨by rfl, ?_⟩) ?_ ?_
     rotate_left
     ·intro w'
      go_simp
      with_reducible rfl
     rotate_left
     ·simp only [Act.put, List.setIfInBounds_toArray, List.set_cons_zero, List.set_cons_succ, i64_w, i32_w]
      rfl
     refine pure_ (i := 3) (N := some 86) (v := ?_) (a' := ?_) #[true, true, true, true, false, false, false, false, false, false, false, false, false, false] rfl rfl (by kernel_rfl) (fun _ _ _ h => h) (Or.inl ⟨by rfl, ?_⟩) ?_ ?_
     rotate_left
     ·intro w'
      go_simp
      with_reducible rfl
     rotate_left
     ·simp only [Act.put, List.setIfInBounds_toArray, List.set_cons_zero, List.set_cons_succ, i64_w, i32_w]
      rfl
     refine pure_ (i := 4) (N := some 87) (v := ?_) (a' := ?_) #[true, true, true, true, true, false, false, false, false, false, false, false, false, false] rfl rfl (by kernel_rfl) (fun _ _ _ h => h) (Or.inl ⟨by rfl, ?_⟩) ?_ ?_
     rotate_left
     ·intro w'
      go_simp
      with_reducible rfl
     rotate_left
     ·simp only [Act.put, List.setIfInBounds_toArray, List.set_cons_zero, List.set_cons_succ, i64_w, i32_w]
      rfl
     refine pure_ (i := 5) (N := some 88) (v := ?_) (a' := ?_) #[true, true, true, true, true, true, false, false, false, false, false, false, false, false] rfl rfl (by kernel_rfl) (fun _ _ _ h => h) (Or.inl ⟨by rfl, ?_⟩) ?_ ?_
     rotate_left
     ·intro w'
      go_simp
      with_reducible rfl
     rotate_left
     ·simp only [Act.put, List.setIfInBounds_toArray, List.set_cons_zero, List.set_cons_succ, i64_w, i32_w]
      rfl
     refine pure_ (i := 6) (N := some 89) (v := ?_) (a' := ?_) #[true, true, true, true, true, true, true, false, false, false, false, false, false, false] rfl rfl (by kernel_rfl) (fun _ _ _ h => h) (Or.inl ⟨by rfl, ?_⟩) ?_ ?_
     rotate_left
     ·intro w'
      go_simp
      with_reducible rfl
     rotate_left
     ·simp only [Act.put, List.setIfInBounds_toArray, List.set_cons_zero, List.set_cons_succ, i64_w, i32_w]
      rfl
     refine pure_ (i := 7) (N := some 90) (v := ?_) (a' := ?_) #[true, true, true, true, true, true, true, true, false, false, false, false, false, false] rfl rfl (by kernel_rfl) (fun _ _ _ h => h) (Or.inl ⟨by rfl, ?_⟩) ?_ ?_
     rotate_left
     ·intro w'
      go_simp
      with_reducible rfl
     rotate_left
     ·simp only [Act.put, List.setIfInBounds_toArray, List.set_cons_zero, List.set_cons_succ, i64_w, i32_w]
      rfl
     refine pure_ (i := 8) (N := some 91) (v := ?_) (a' := ?_) #[true, true, true, true, true, true, true, true, true, false, false, false, false, false] rfl rfl (by kernel_rfl) (fun _ _ _ h => h) (Or.inl ⟨by rfl, ?_⟩) ?_ ?_
     rotate_left
     ·intro w'
      go_simp
      with_reducible rfl
     rotate_left
     ·simp only [Act.put, List.setIfInBounds_toArray, List.set_cons_zero, List.set_cons_succ, i64_w, i32_w]
      rfl
     refine pure_ (i := 9) (N := some 92) (v := ?_) (a' := ?_) #[true, true, true, true, true, true, true, true, true, true, false, false, false, false] rfl rfl (by kernel_rfl) (fun _ _ _ h => h) (Or.inl ⟨by rfl, ?_⟩) ?_ ?_
     rotate_left
     ·intro w'
      go_simp
      with_reducible rfl
     rotate_left
     ·simp only [Act.put, List.setIfInBounds_toArray, List.set_cons_zero, List.set_cons_succ, i64_w, i32_w]
      rfl
     refine pure_ (i := 10) (N := some 93) (v := ?_) (a' := ?_) #[true, true, true, true, true, true, true, true, true, true, true, false, false, false] rfl rfl (by kernel_rfl) (fun _ _ _ h => h) (Or.inl ⟨by rfl, ?_⟩) ?_ ?_
     rotate_left
     ·intro w'
      go_simp
      with_reducible rfl
     rotate_left
     ·simp only [Act.put, List.setIfInBounds_toArray, List.set_cons_zero, List.set_cons_succ, i64_w, i32_w]
      rfl
     refine one_ (i := 11) (N := some 94) #[true, true, true, true, true, true, true, true, true, true, true, true, false, false] rfl rfl (by kernel_rfl) (by decide) (fun K hK => ?_)
     refine value_ (w1 := ?_) (v := ?_) (by rfl) rfl ?_ ?_
     rotate_left 2
     ·go_simp
      first | (refine ⟨?_, ?_⟩ <;> rfl) | rfl
     refine hK.out _ _ ⟨trivial, trivial⟩ (fun hHeld => ?_)
     clear hK K
     refine norm_ (a' := ?_) ?_ ?_
     rotate_left
     ·show Act.put _ (some 94) _ = _
      simp only [Act.put, List.setIfInBounds_toArray, List.set_cons_zero, List.set_cons_succ, i64_w, i32_w]
      rfl
     refine one_ (i := 12) (N := some 95) #[true, true, true, true, true, true, true, true, true, true, true, true, true, false] rfl rfl (by kernel_rfl) (by decide) (fun K hK => ?_)
     refine Kd.R_append_step k34 (w0 := wr.drew) w5.heap.size (by rfl) (.tmp 83) (.tmp 94) 27 34 (.agg #[.int .i64 0, .int .i64 0]) 16 rfl Tryz.underlying27 infoStp rfl (by decide) (by omega) (.slice A7 L7 c7) (r.take k) ⟨x.f0, x.f1⟩ [.int .i64 x.f0, .int .i64 x.f1] (fun _ => True) (fun _ => False) rfl rfl ?aP (fun _ hk => hk.elim) (fun _ _ => trivial) (Kd.R_drew HO.out) (Below.refl _ _) ?aS ?aL ?_
     (case aP => exact k34_mkM _ _ _ ⟨x.f0, x.f1⟩)
     (case aS => exact HB.out.drew.size)
     (case aL => have := HN.out; rw [← HL7.out]; omega)
     intro v6 w6 ho hb hg hat
     have HO6 := Aside0.mk ho
     have HB6 := Aside0.mk (HB.out.drew.trans hb)
     clear ho hb hg hat
     refine hK.out _ _ ⟨trivial, trivial⟩ (fun hHeld => ?_)
     clear hK K
     refine norm_ (a' := ?_) ?_ ?_
     rotate_left
     ·show Act.put _ (some 95) _ = _
      simp only [Act.put, List.setIfInBounds_toArray, List.set_cons_zero, List.set_cons_succ, i64_w, i32_w]
      rfl
     refine pure_ (i := 13) (N := some 15) (v := ?_) (a' := ?_) #[true, true, true, true, true, true, true, true, true, true, true, true, true, true] rfl rfl (by kernel_rfl) (fun _ _ _ h => h) (Or.inl ⟨by rfl, ?_⟩) ?_ ?_
     rotate_left
     ·intro w'
      go_simp
      with_reducible rfl
     rotate_left
     ·simp only [Act.put, List.setIfInBounds_toArray, List.set_cons_zero, List.set_cons_succ, i64_w, i32_w]
      rfl
     refine done_ (by kernel_rfl) ?_
     go_wp2
     go_roundg (r.length - (k + 1))
     case rel => exact ⟨k + 1, i + 2, congrArg (Value.int .i64) HI5.out, HI2, HI4.out, HI3.out, ⟨by rw [HTT.out]; exact HO6.out⟩, HB6⟩
     case measure => have := HLT.out; omega
    ·have d1 : decide ((i : Int) + 1 < 2 * (r.length : Int)) = false := decide_eq_false (by have := HI.out; omega)
     have htk : r.take k = r := List.take_of_length_le (by omega)
     rw [htk] at HO eR
     subst eR
     have HC7 := Aside0.mk (Kd.R_reads' HO.out).2.2
     have HBW7 := Aside0.mk (HBW5.out.trans (HB.out.mono HBW5.out.size))
     have HA7 := hid (show wr.heap[tb]? = some (.cells #[.int .i64 W, .int .i64 H, .slice A2 r0.length c2] 24 (0, 0)) from (HB.out.block tb (lt_of_some HA5.out)).trans HA5.out)
     have z0 : wr.cell? ⟨tb, 0, none⟩ = some (.int .i64 W) := by simp [World.cell?, HA7.out]
     have z1 : wr.cell? ⟨tb, 1, none⟩ = some (.int .i64 H) := by simp [World.cell?, HA7.out]
     have z2 : wr.cell? ⟨tb, 2, none⟩ = some (.slice A2 r0.length c2) := by simp [World.cell?, HA7.out]
     have HW1 := hid (Worth_walk 98 W H A2 c2 r0 A3 c3 r s ar wr hW0 (by omega) hH0 (by omega) hrl (by omega) (Kd.C_below HC5.out HB.out) (Kd.C_below HBL5.out HB.out) HV.out HRD.out)
     have HBL7 := Aside0.mk (Kd.C_below HBL5.out HB.out)
     clear htk HO HC5 HBL5 HBW5 HA5 HB
     go_wp2_with (fail)
     refine HW1.out.mono ?_
     rintro e w8 ⟨rfl, hb⟩
     have HBW8 := Aside0.mk (HBW7.out.trans (hb.mono HBW7.out.size))
     have HA8 := hid (show w8.heap[tb]? = some (.cells #[.int .i64 W, .int .i64 H, .slice A2 r0.length c2] 24 (0, 0)) from (hb.block tb (lt_of_some HA7.out)).trans HA7.out)
     have HW2 := hid (Worth_walk 98 W H A2 c2 r0 A7 c7 r s ar w8 hW0 (by omega) hH0 (by omega) hrl (by omega) (Kd.C_below HC7.out hb) (Kd.C_below HBL7.out hb) HV.out HRD.out)
     clear hb HW1 HBW7 HA7 z0 z1 z2 HC7 HBL7
     have z0 : w8.cell? ⟨tb, 0, none⟩ = some (.int .i64 W) := by simp [World.cell?, HA8.out]
     have z1 : w8.cell? ⟨tb, 1, none⟩ = some (.int .i64 H) := by simp [World.cell?, HA8.out]
     have z2 : w8.cell? ⟨tb, 2, none⟩ = some (.slice A2 r0.length c2) := by simp [World.cell?, HA8.out]
     go_wp2_with (fail)
     refine HW2.out.mono ?_
     rintro e w9 ⟨rfl, hb⟩
     have HBW9 := Aside0.mk (HBW8.out.trans (hb.mono HBW8.out.size))
     clear hb HW2 HBW8 HA8 z0 z1 z2
     have dq : decide (s = s) = true := decide_eq_true rfl
     go_wp2_with (fail)
     refine (four_walk _ (HZ.out.below HBW9.out)).mono ?_
     rintro e w10 ⟨rfl, hb⟩
     have HBW10 := Aside0.mk (HBW9.out.trans (hb.mono HBW9.out.size))
     clear hb
     go_wp2_with (fail)
     go_ret
     exact ⟨rfl, HBW10.out⟩
end Go.Proofs.YtiioklboaookiaaGreatDoor.Q
