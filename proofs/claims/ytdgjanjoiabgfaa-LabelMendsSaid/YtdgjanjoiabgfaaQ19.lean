-- written by a program of this session's (wip/hook.py: the kit's print, with functions proved by hand)
import Derived.Test.YtdgjanjoiabgfaaQ0
import Derived.Test.YtdgjanjoiabgfaaQ16
import Derived.Test.YtdgjanjoiabgfaaQ18
namespace Go.Proofs.Ytdgjanjoiabgfaa.Q
open Go.RowKit Go.Proofs.YtdgjanjoiabgfaaW.PrintWords Go.Proofs.YtdgjanjoiabgfaaW.PrintLast Go.Proofs.Ytdgjanjoiabgfaa.Hand Go.Proofs.YtdgjanjoiabgfaaW.PrintMore
attribute [local go_sem] max2_int min2_int max_two min_two max_three min_three max_four min_four   -- for this text's walks alone
set_option linter.unusedVariables false
set_option linter.unusedSimpArgs false

/-! ### silversidelaw03_spoilt: function 23, by hand -/
/-- block g holds the bytes B; it was made of a string -/
def ByB (g : Nat) (B : List Int) (w : World) : Prop := ∃ (C : Array Value) (m : Nat), w.heap[g]? = some (.cells C 5 (m, m + 1)) ∧ B.length ≤ m ∧ ∀ j : Nat, j < B.length → C[j]? = some (.int .u8 (rd B (j : Int)))
theorem ByB.cell {g : Nat} {B : List Int} {w : World} (h : ByB g B w) (j : Nat) (hj : j < B.length) : w.cell? ⟨g, j, none⟩ = some (.int .u8 (rd B (j : Int))) := by
  obtain ⟨C, m, h1, h2, h3⟩ := h; simp [World.cell?, h1, h3 j hj]
theorem ByB.free {g : Nat} {B : List Int} {w : World} (h : ByB g B w) (j : Nat) (hj : j < B.length) : w.frozen? ⟨g, j, none⟩ = false := by
  obtain ⟨C, m, h1, h2, h3⟩ := h; simp [World.frozen?, h1]; omega
theorem ByB.put {g : Nat} {B : List Int} {w : World} (h : ByB g B w) (j : Nat) (hj : j < B.length) (v : Int) : ByB g (B.set j v) (w.setCell ⟨g, j, none⟩ (.int .u8 v)) := by
  obtain ⟨C, m, h1, h2, h3⟩ := h
  refine ⟨C.setIfInBounds j (.int .u8 v), m, ?_, by rw [List.length_set]; exact h2, fun i hi => ?_⟩
  · have hb : g < w.heap.size := lt_of_some h1
    simp [World.setCell, Array.getElem?_modify, h1]
  · rw [List.length_set] at hi
    have hc := h3 i hi
    have hs : j < C.size := lt_of_some (h3 j hj)
    rw [Array.getElem?_setIfInBounds]
    unfold rd
    rw [Int.toNat_natCast, List.getD_eq_getElem?_getD, List.getElem?_set]
    by_cases e : j = i
    · subst e; simp [hs, hj]
    · rw [if_neg e, if_neg e, hc]
      unfold rd
      rw [Int.toNat_natCast, List.getD_eq_getElem?_getD]
theorem ByB.lt {g : Nat} {B : List Int} {w : World} (h : ByB g B w) : g < w.heap.size := by obtain ⟨C, m, h1, h2⟩ := h; exact lt_of_some h1
theorem ByB.step {g : Nat} {B : List Int} {w w1 : World} (h : ByB g B w) (he : w1.heap[g]? = w.heap[g]?) : ByB g B w1 := by obtain ⟨C, m, h1, h2⟩ := h; exact ⟨C, m, he.trans h1, h2⟩
theorem ByB.below {g : Nat} {B : List Int} {w w1 : World} (h : ByB g B w) (hb : Below w.heap.size w w1) : ByB g B w1 := h.step (hb.block g h.lt)
theorem ByB.start (W : World) (s : ByteArray) : ByB W.heap.size (bytesOf s) (Lib.bytesWorld W 5 s) := by
  refine ⟨_, _, Lib.bytesWorld_at_new W 5 s, by rw [bytesOf_length]; simp [Lib.bytesCells], fun j hj => ?_⟩
  rw [bytesOf_length] at hj
  have h := Lib.bytesWorld_cell W 5 s j hj
  have hn := Lib.bytesWorld_at_new W 5 s
  simp only [World.cell?, hn, Option.isSome_none, Bool.false_eq_true, if_false] at h
  rw [h]
  have h' : j < s.data.toList.length := by rw [data_length]; exact hj
  unfold rd bytesOf
  simp [List.getD_eq_getElem?_getD, List.getElem?_eq_getElem h']
theorem ByB.reads {g : Nat} {B : List Int} {w : World} (h : ByB g B w) (hm : B.length ≤ 9223372036854775807) : (Kd.int .u8).C w (some ⟨g, 0, none⟩) B.length B :=
  Kd.C_of_reads (enc := Value.int .u8) (h1 := fun _ => rfl) (d := (0 : Int)) ⟨rfl, hm, fun _ => ⟨_, rfl, fun j hj => by rw [add_plain]; exact h.cell j hj⟩⟩
theorem ByB.ne {b : Nat} {B : List Int} {w : World} (h : ByB b B w) {xs : List Int} {base : Nat} {ok : Nat → Prop} {v : Value} (hr : Kd.R (Kd.int .i64) 3 w base ok v xs) : some b ≠ v.ownBlock := fun e => by
  obtain ⟨C, m, h1, h2⟩ := h
  obtain ⟨_, inner, ho, _⟩ := hr
  obtain ⟨cells, hc⟩ := own_typed ho b e.symm
  rw [h1] at hc
  injection hc with hc
  injection hc with _ hc
  exact absurd hc (by decide)
theorem ByB.put_R {g : Nat} {B : List Int} {w : World} (h : ByB g B w) {xs : List Int} {base : Nat} {v : Value} (hr : Kd.R (Kd.int .i64) 3 w base (fun _ => True) v xs) (j : Nat) (u : Value) : Kd.R (Kd.int .i64) 3 (w.setCell ⟨g, j, none⟩ u) base (fun _ => True) v xs :=
  Kd.R_mono (Kd.R_far (p := ⟨g, j, none⟩) (ok := fun k => k ≠ g) (Kd.R_mono (Kd.R_bound hr) (fun k hk => by
    obtain ⟨_, _, _, q, _, cells, hc⟩ := hk
    rintro rfl
    obtain ⟨C, m, h1, h2⟩ := h
    rw [h1] at hc
    injection hc with hc
    injection hc with _ _ hc
    injection hc with _ hc
    omega)) (fun _ hk => hk) u) (fun _ _ => trivial)
/-- what spoilt does with its list: the bytes and the positions at the end -/
def spo : List S47 → List Int → List Int → Int → Option (List Int × List Int)
  | [], B, at_, _ => some (B, at_)
  | x :: l, B, at_, most => if (at_.length : Int) < most then
      (silversidelaw03_mod.f x.f0 (B.length : Int)).bind fun k => if x.f1 = 0 then spo l B at_ most else if k ∈ at_ then spo l B at_ most else
        spo l (B.set k.toNat (Go.bits .xor .u8 (rd B k) x.f1)) (at_ ++ [k]) most
    else some (B, at_)
def silversidelaw03_spoilt.f (a0 : ByteArray) (l1 : List S47) (a2 : Int) : Option (ByteArray × List Int) :=
  if 0 < a0.size ∧ a0.size ≤ 100000 ∧ a2 ≤ 1000 then (spo l1 (bytesOf a0) [] a2).bind fun r => some (strOfNums r.1, r.2) else none
theorem mod_nat (a : Int) (b : Nat) (hb : 0 < b) (hb' : b ≤ 100000) : ∃ r : Nat, silversidelaw03_mod.f a (b : Int) = some (r : Int) ∧ r < b := by
  unfold silversidelaw03_mod.f
  have e1 : IntKind.u64.wrap (b : Int) = b := by rw [IntKind.wrap_u64]; omega
  have e2 : 0 ≤ IntKind.u64.wrap a := by rw [IntKind.wrap_u64]; omega
  rw [e1, if_neg (by omega), Int.tmod_eq_emod_of_nonneg e2]
  generalize IntKind.u64.wrap a = x at *
  have h1 : 0 ≤ x % (b : Int) := Int.emod_nonneg _ (by omega)
  have h2 : x % (b : Int) < b := Int.emod_lt_of_pos _ (by omega)
  refine ⟨(x % (b : Int)).toNat, ?_, by omega⟩
  rw [w64_in _ (by omega) (by omega)]
  congr 1; omega
theorem has_from (L : List Int) (x : Int) (hL : L.length ≤ 10000) (m : Nat) : ∀ i, i + m = L.length → silversideref03_Has.l0 (m + 1) L x (i : Int) = some (decide (x ∈ L.drop i)) := by
  induction m with
  | zero =>
    intro i hi
    rw [silversideref03_Has.l0, if_neg (by omega), List.drop_eq_nil_of_le (by omega), decide_eq_false (by simp)]
  | succ m ih =>
    intro i hi
    have hil : i < L.length := by omega
    rw [silversideref03_Has.l0, if_pos (by omega), if_pos (by omega), drop_rd i hil]
    by_cases h : rd L (i : Int) = x
    · rw [if_pos h, decide_eq_true (by simp [h])]
    · rw [if_neg h, w64_in _ (by omega) (by omega)]
      have := ih (i + 1) (by omega)
      rw [show (i : Int) + 1 = ((i + 1 : Nat) : Int) from by omega, this]
      congr 1
      exact decide_eq_decide.2 ⟨fun e => List.mem_cons_of_mem _ e, fun e => (List.mem_cons.1 e).resolve_left (fun e => h e.symm)⟩
theorem has_some (L : List Int) (x : Int) (hL : L.length ≤ 10000) : silversideref03_Has.f (L.length + 1) L x = some (decide (x ∈ L)) := by
  unfold silversideref03_Has.f; exact has_from L x hL L.length 0 (by omega)
theorem drop_T {l : List S47} (i : Nat) (hi : i < l.length) : l.drop i = rd_T47 l (i : Int) :: l.drop (i + 1) := by
  unfold rd_T47; rw [Int.toNat_natCast, List.getD_eq_getElem?_getD, List.getElem?_eq_getElem hi, List.drop_eq_getElem_cons hi]; rfl
set_option maxHeartbeats 8000000 in
set_option maxRecDepth 100000 in
theorem spoilt_walk (a0 : ByteArray) (A1 : Option Addr) (c1 : Nat) (l1 : List S47) (a2 : Int) (rB r2 : List Int) (w : World) (hr1 : Kd.C k47 w A1 l1.length l1) (hs0 : 0 < a0.size) (hs : a0.size ≤ 100000) (hm : a2 ≤ 1000) (h : spo l1 (bytesOf a0) [] a2 = some (rB, r2)) :
    Calls Try.prog 23 #[.string a0, .slice A1 l1.length c1, .int .i64 a2] w fun e w' => ∃ v1_ : Value, e = .returned (.tuple #[.string (strOfNums rB), v1_]) ∧ Kd.R (Kd.int .i64) 3 w' w.heap.size (fun _ => True) v1_ r2 ∧ Below w.heap.size w w' := by
  have HR1 := Aside0.mk hr1
  have hmx : (l1.length : Int) ≤ 9223372036854775807 := by have := Kd.C_max hr1; omega
  have hs1 : (a0.size : Int) ≤ 100000 := by omega
  have H := hid h
  have HBL := hid (bytesOf_length a0)
  have HSZ := hid hs0
  have HSM := hid hs
  have kb := fun W => print_bytes (P := Try.prog) 9 58 5 Try.underlying9 Try.underlying58 Try.underlying5 a0 W
  clear hr1 h hs0 hs
  go_enter Try.func23, Try.ntmps23
  go_wp2
  have HY0 := Aside0.mk (ByB.start w a0)
  have HB0 := Aside0.mk (bytes_below (Below.refl w.heap.size w) (Nat.le_refl _) 5 a0)
  obtain ⟨W, eW⟩ : ∃ W, W = Lib.bytesWorld w 5 a0 := ⟨_, rfl⟩
  obtain ⟨cp, ecp⟩ : ∃ cp, cp = grownCap w a0.size 0 5 := ⟨_, rfl⟩
  rw [← eW] at HY0 HB0
  (try simp only [← eW, ← ecp])
  clear eW ecp kb
  go_loopg [9, 10] l1.length (fun kq v9 v10 w' => ∃ (i : Nat) (B at_ : List Int), v10 = .int .i64 i ∧ i + kq = l1.length ∧ Aside0 (spo (l1.drop i) B at_ a2 = some (rB, r2)) ∧ Aside0 (B.length = a0.size) ∧ Aside0 (ByB w.heap.size B w') ∧ Aside0 (Kd.R (Kd.int .i64) 3 w' w.heap.size (fun _ => True) v9 at_) ∧ Aside0 (Below w.heap.size w w'))
  case atStart => exact ⟨0, bytesOf a0, [], rfl, by omega, ⟨H.out⟩, ⟨HBL.out⟩, HY0, ⟨Kd.R_nil _ _ _ _ _⟩, HB0⟩
  case round =>
    clear HY0 HB0
    obtain ⟨i, B, at_, rfl, hi, HT, HL, HY, HO, HB⟩ := hrel
    have eR := Kd.R_slice HO.out
    obtain ⟨Ao, co, eo⟩ := eR
    subst eo
    by_cases hlt : i < l1.length
    · have d1 : decide ((i : Int) < (l1.length : Int)) = true := decide_eq_true (by omega)
      by_cases hmost : (at_.length : Int) < a2
      · have d2 : decide ((at_.length : Int) < a2) = true := decide_eq_true hmost
        obtain ⟨ad, e0, hx0, hx1⟩ := at_T47 HR1.out (i : Int) (by omega) (by omega)
        rw [Int.toNat_natCast] at hx0 hx1
        replace hx0 := (HB.out.cell (World.block_lt_of_cell? w _ hx0)).trans hx0
        replace hx1 := (HB.out.cell (World.block_lt_of_cell? w _ hx1)).trans hx1
        cases e0
        have hlt' : (i : Int) < (l1.length : Int) := by omega
        have i0 : (0 : Int) ≤ (i : Int) := by omega
        have HDR := hid (drop_T i hlt)
        obtain ⟨x, hxx⟩ : ∃ x, x = rd_T47 l1 (i : Int) := ⟨_, rfl⟩
        rw [← hxx] at hx0 hx1 HDR
        clear hxx
        obtain ⟨j, hj, hjn⟩ := mod_nat x.f0 a0.size HSZ.out HSM.out
        have HJ := hid hj
        clear hj
        have HM := hid hmost
        clear hmost
        have T1 : Hid (spo (x :: l1.drop (i + 1)) B at_ a2 = some (rB, r2)) := by show _ = _; rw [← HDR.out]; exact HT.out
        by_cases hz : x.f1 = 0
        · have t1 : (x.f1 == 0) = true := beq_iff_eq.2 hz
          have HZ := hid hz
          clear hz
          go_wp2_with ((with_reducible refine gate_callee (f := 25) rfl ?_); refine goesL_ (some 33) rfl rfl Try.func25 (by kernel_rfl) rfl #[.int .i64 x.f0, .int .i64 (a0.size : Int)] rfl (by (try simp only [List.map_toArray, List.map_cons, List.map_nil]); first | done | rfl) ?_; (with_reducible refine (silversidelaw03_mod.calls x.f0 (a0.size : Int) (j : Int) _ HJ.out).mono ?_); rintro e w1 ⟨rfl, ⟨nd, rfl⟩⟩; refine ⟨_, rfl, ?_⟩)
          go_roundg (l1.length - (i + 1))
          case rel =>
            refine ⟨i + 1, B, at_, by go_num, by omega, ⟨?_⟩, HL, ⟨HY.out⟩, ⟨Kd.R_drewN HO.out _⟩, ⟨pw_below_drewN HB.out _⟩⟩
            have h := T1.out
            unfold spo at h
            rw [if_pos HM.out, HL.out, HJ.out] at h
            change (if x.f1 = 0 then _ else _) = _ at h
            rw [if_pos HZ.out] at h
            exact h
          case measure => omega
        · have t1 : (x.f1 == 0) = false := beq_eq_false_iff_ne.2 hz
          have HZ := hid hz
          clear hz
          have hha := has_some at_ (j : Int) (by have := HM.out; omega)
          by_cases hin : (j : Int) ∈ at_
          · have HH : Hid (silversideref03_Has.f (at_.length + 1) at_ (j : Int) = some true) := by show _ = _; rw [hha, decide_eq_true hin]
            have HIN := hid hin
            clear hin hha
            go_wp2_with (first | ((with_reducible refine gate_callee (f := 25) rfl ?_); refine goesL_ (some 33) rfl rfl Try.func25 (by kernel_rfl) rfl #[.int .i64 x.f0, .int .i64 (a0.size : Int)] rfl (by (try simp only [List.map_toArray, List.map_cons, List.map_nil]); first | done | rfl) ?_; (with_reducible refine (silversidelaw03_mod.calls x.f0 (a0.size : Int) (j : Int) _ HJ.out).mono ?_); rintro e w1 ⟨rfl, ⟨nd, rfl⟩⟩; refine ⟨_, rfl, ?_⟩) | (go_at_call 24; (with_reducible refine (silversideref03_Has.calls (at_.length + 1) _ _ at_ (j : Int) true _ ?side1 ?side2 HH.out).mono ?_); (case side1 => repeat (first | exact (Kd.R_reads' HO.out).2.2 | (with_reducible refine Kd.C_drewN ?_ _))); (case side2 => exact (Kd.R_reads' HO.out).2.1); rintro e w2 ⟨rfl, ⟨nd2, rfl⟩⟩))
            go_roundg (l1.length - (i + 1))
            case rel =>
              refine ⟨i + 1, B, at_, by go_num, by omega, ⟨?_⟩, HL, ⟨HY.out⟩, ⟨by (with_reducible repeat (first | apply Kd.R_drewN | apply Kd.R_drew)); exact HO.out⟩, ⟨by repeat (first | exact HB.out | apply pw_below_drewN)⟩⟩
              have h := T1.out
              unfold spo at h
              rw [if_pos HM.out, HL.out, HJ.out] at h
              change (if x.f1 = 0 then _ else _) = _ at h
              rw [if_neg HZ.out, if_pos HIN.out] at h
              exact h
            case measure => omega
          · have HH : Hid (silversideref03_Has.f (at_.length + 1) at_ (j : Int) = some false) := by show _ = _; rw [hha, decide_eq_false hin]
            have HIN := hid hin
            clear hin hha
            have hjB : j < B.length := by have := HL.out; omega
            have X1 := fun m m2 => hid (show ((wr.drewN m).drewN m2).cell? ⟨w.heap.size, j, none⟩ = some (.int .u8 (rd B (j : Int))) from HY.out.cell j hjB)
            have X1b := hid hx1
            have hcz := HY.out.cell j hjB
            have hfz := HY.out.free j hjB
            clear hjB
            have j0 : (0 : Int) ≤ (j : Int) := by omega
            have j1 : (j : Int) < (a0.size : Int) := by omega
            go_wp2_with (first | ((with_reducible refine gate_callee (f := 25) rfl ?_); refine goesL_ (some 33) rfl rfl Try.func25 (by kernel_rfl) rfl #[.int .i64 x.f0, .int .i64 (a0.size : Int)] rfl (by (try simp only [List.map_toArray, List.map_cons, List.map_nil]); first | done | rfl) ?_; (with_reducible refine (silversidelaw03_mod.calls x.f0 (a0.size : Int) (j : Int) _ HJ.out).mono ?_); rintro e w1 ⟨rfl, ⟨nd, rfl⟩⟩; refine ⟨_, rfl, ?_⟩) | (go_at_call 24; (with_reducible refine (silversideref03_Has.calls (at_.length + 1) _ _ at_ (j : Int) false _ ?side1 ?side2 HH.out).mono ?_); (case side1 => repeat (first | exact (Kd.R_reads' HO.out).2.2 | (with_reducible refine Kd.C_drewN ?_ _))); (case side2 => exact (Kd.R_reads' HO.out).2.1); rintro e w2 ⟨rfl, ⟨nd2, rfl⟩⟩))
            refine start_ (n := 14) (S := fun w' => w'.cell? ⟨w.heap.size, j, none⟩ = some (.int .u8 (rd B (j : Int))) ∧ w'.cell? ⟨(ad.add (i * 2)).block, (ad.add (i * 2)).off + 1, none⟩ = some (.int .u8 x.f1)) (ds := [13]) #[false, false, false, false, false, false, false, false, false, false, false, false, false, false] (by kernel_rfl) rfl rfl ⟨(X1 _ _).out, X1b.out⟩ (fun hHeld => ?_)
            refine pure_ (i := 0) (N := some 45) (v := ?_) (a' := ?_) #[true, false, false, false, false, false, false, false, false, false, false, false, false, false] rfl rfl (by kernel_rfl) (fun _ _ _ h => h) (Or.inl ⟨by rfl, ?_⟩) ?_ ?_
            rotate_left
            · intro w'
              go_simp
              with_reducible rfl
            rotate_left
            · simp only [Act.put, List.setIfInBounds_toArray, List.set_cons_zero, List.set_cons_succ, i64_w, i32_w]
              rfl
            refine pure_ (i := 1) (N := some 46) (v := ?_) (a' := ?_) #[true, true, false, false, false, false, false, false, false, false, false, false, false, false] rfl rfl (by kernel_rfl) (fun _ _ _ h => h) (Or.inl ⟨by rfl, ?_⟩) ?_ ?_
            rotate_left
            · intro w'
              go_simp
              with_reducible rfl
            rotate_left
            · simp only [Act.put, List.setIfInBounds_toArray, List.set_cons_zero, List.set_cons_succ, i64_w, i32_w]
              rfl
            refine pure_ (i := 2) (N := some 47) (v := ?_) (a' := ?_) #[true, true, true, false, false, false, false, false, false, false, false, false, false, false] rfl rfl (by kernel_rfl) (fun _ _ _ h => h) (Or.inl ⟨by rfl, ?_⟩) ?_ ?_
            rotate_left
            · intro w'
              go_simp
              with_reducible rfl
            rotate_left
            · simp only [Act.put, List.setIfInBounds_toArray, List.set_cons_zero, List.set_cons_succ, i64_w, i32_w]
              rfl
            refine pure_ (i := 3) (N := some 48) (v := ?_) (a' := ?_) #[true, true, true, true, false, false, false, false, false, false, false, false, false, false] rfl rfl (by kernel_rfl) (fun _ _ _ h => h) (Or.inl ⟨by rfl, ?_⟩) ?_ ?_
            rotate_left
            · intro w'
              go_simp
              with_reducible rfl
            rotate_left
            · simp only [Act.put, List.setIfInBounds_toArray, List.set_cons_zero, List.set_cons_succ, i64_w, i32_w]
              rfl
            refine pure_ (i := 4) (N := some 49) (v := ?_) (a' := ?_) #[true, true, true, true, true, false, false, false, false, false, false, false, false, false] rfl rfl (by kernel_rfl) (fun _ _ _ h => h) (Or.inl ⟨by rfl, ?_⟩) ?_ ?_
            rotate_left
            · intro w'
              go_simp
              with_reducible rfl
            rotate_left
            · simp only [Act.put, List.setIfInBounds_toArray, List.set_cons_zero, List.set_cons_succ, i64_w, i32_w]
              rfl
            refine pure_ (i := 6) (N := some 51) (v := ?_) (a' := ?_) #[true, true, true, true, true, false, true, false, false, false, false, false, false, false] rfl rfl (by kernel_rfl) (fun _ _ _ h => h) (Or.inl ⟨by rfl, ?_⟩) ?_ ?_
            rotate_left
            · intro w'
              go_simp
              with_reducible rfl
            rotate_left
            · simp only [Act.put, List.setIfInBounds_toArray, List.set_cons_zero, List.set_cons_succ, i64_w, i32_w]
              rfl
            refine pure_ (i := 7) (N := some 52) (v := ?_) (a' := ?_) #[true, true, true, true, true, false, true, true, false, false, false, false, false, false] rfl rfl (by kernel_rfl) (fun _ _ _ h => h) (Or.inl ⟨by rfl, ?_⟩) ?_ ?_
            rotate_left
            · intro w'
              go_simp
              with_reducible rfl
            rotate_left
            · simp only [Act.put, List.setIfInBounds_toArray, List.set_cons_zero, List.set_cons_succ, i64_w, i32_w]
              rfl
            refine pure_ (i := 8) (N := some 53) (v := ?_) (a' := ?_) #[true, true, true, true, true, false, true, true, true, false, false, false, false, false] rfl rfl (by kernel_rfl) (fun _ _ _ h => h) (Or.inl ⟨by rfl, ?_⟩) ?_ ?_
            rotate_left
            · intro w'
              go_simp
              with_reducible rfl
            rotate_left
            · simp only [Act.put, List.setIfInBounds_toArray, List.set_cons_zero, List.set_cons_succ, i64_w, i32_w]
              rfl
            refine pure_ (i := 9) (N := some 54) (v := ?_) (a' := ?_) #[true, true, true, true, true, false, true, true, true, true, false, false, false, false] rfl rfl (by kernel_rfl) (fun _ _ _ h => h) (Or.inl ⟨by rfl, ?_⟩) ?_ ?_
            rotate_left
            · intro w'
              go_simp
              with_reducible rfl
            rotate_left
            · simp only [Act.put, List.setIfInBounds_toArray, List.set_cons_zero, List.set_cons_succ, i64_w, i32_w]
              rfl
            refine take_ (i := 5) (N := some 50) (v := ?_) (a' := ?_) #[true, true, true, true, true, true, true, true, true, true, false, false, false, false] rfl rfl (by kernel_rfl) (fun _ _ _ h => h) (Or.inl ⟨by rfl, ?_⟩) hHeld ?_ ?_
            rotate_left
            · rintro w' ⟨s0, s1⟩
              go_simp
              with_reducible rfl
            rotate_left
            · simp only [Act.put, List.setIfInBounds_toArray, List.set_cons_zero, List.set_cons_succ, i64_w, i32_w]
              rfl
            refine take_ (i := 10) (N := some 55) (v := ?_) (a' := ?_) #[true, true, true, true, true, true, true, true, true, true, true, false, false, false] rfl rfl (by kernel_rfl) (fun _ _ _ h => h) (Or.inl ⟨by rfl, ?_⟩) hHeld ?_ ?_
            rotate_left
            · rintro w' ⟨s0, s1⟩
              go_simp
              with_reducible rfl
            rotate_left
            · simp only [Act.put, List.setIfInBounds_toArray, List.set_cons_zero, List.set_cons_succ, i64_w, i32_w]
              rfl
            refine pure_ (i := 11) (N := some 56) (v := ?_) (a' := ?_) #[true, true, true, true, true, true, true, true, true, true, true, true, false, false] rfl rfl (by kernel_rfl) (fun _ _ _ h => h) (Or.inl ⟨by rfl, ?_⟩) ?_ ?_
            rotate_left
            · intro w'
              go_simp
              with_reducible rfl
            rotate_left
            · simp only [Act.put, List.setIfInBounds_toArray, List.set_cons_zero, List.set_cons_succ, i64_w, i32_w]
              rfl
            refine pure_ (i := 12) (N := some 57) (v := ?_) (a' := ?_) #[true, true, true, true, true, true, true, true, true, true, true, true, true, false] rfl rfl (by kernel_rfl) (fun _ _ _ h => h) (Or.inl ⟨by rfl, ?_⟩) ?_ ?_
            rotate_left
            · intro w'
              go_simp
              with_reducible rfl
            rotate_left
            · simp only [Act.put, List.setIfInBounds_toArray, List.set_cons_zero, List.set_cons_succ, i64_w, i32_w]
              rfl
            refine last_ (i := 13) (N := none) #[true, true, true, true, true, true, true, true, true, true, true, true, true, true] rfl rfl (by kernel_rfl) (by decide) (fun K hK => ?_)
            refine skip_ (w1 := ?_) (by rfl) rfl ?_ ?_
            rotate_left
            · go_simp
              rfl
            refine hK.out _ _ ?_
            clear hK K
            refine done_ (by kernel_rfl) ?_
            have HO2 := Aside0.mk (ByB.put_R (show ByB w.heap.size B (wr.drewN (nd + nd2 + 1)) from HY.out) (Kd.R_drewN HO.out (nd + nd2 + 1)) j (.int .u8 (Go.bits .xor .u8 (rd B (j : Int)) x.f1)))
            have HY2 := Aside0.mk (ByB.put (show ByB w.heap.size B (wr.drewN (nd + nd2 + 1)) from HY.out) j (by have := HL.out; omega) (Go.bits .xor .u8 (rd B (j : Int)) x.f1))
            have HB2 := Aside0.mk ((pw_below_drewN HB.out (nd + nd2 + 1)).setCell (p := ⟨w.heap.size, j, none⟩) (Nat.le_refl _) (.int .u8 (Go.bits .xor .u8 (rd B (j : Int)) x.f1)))
            clear X1 X1b hfz hcz
            go_wp2_with ((with_reducible refine gate_builtin (b := .append) (xs := #[.tmp 58, .tmp 60]) rfl ?_); at_builtin; refine Kd.R_append (Kd.int .i64) (w0 := w) w.heap.size rfl (.tmp 58) (.tmp 60) 29 3 (.int .i64 0) 8 rfl Try.underlying29 Try.infoInt rfl (by decide) (by omega) (.slice Ao at_.length co) at_ (j : Int) [.int .i64 j] (fun _ => True) (fun _ => False) rfl (by first | (go_simp; done) | (go_simp; rfl)) ?aP (fun _ hk => hk.elim) ?aF ?aO ?aB ?aS ?aL ?_; (case aP => exact rfl); (case aB => exact HB2.out); (case aF => exact (fun _ _ => trivial)); (case aO => exact HO2.out); (case aS => exact HB2.out.size); (case aL => have := HM.out; omega); intro v1 w9 ho hb hg hat; have HO1 := Aside0.mk ho; have HB1 := Aside0.mk hb; have HG1 := Aside0.mk hg; clear ho hb hg hat)
            go_roundg (l1.length - (i + 1))
            case rel =>
              refine ⟨i + 1, B.set j (Go.bits .xor .u8 (rd B (j : Int)) x.f1), at_ ++ [(j : Int)], by go_num, by omega, ⟨?_⟩, ⟨by rw [List.length_set]; exact HL.out⟩, ⟨?_⟩, HO1, HB1⟩
              · have h := T1.out
                unfold spo at h
                rw [if_pos HM.out, HL.out, HJ.out] at h
                change (if x.f1 = 0 then _ else _) = _ at h
                rw [if_neg HZ.out, if_neg HIN.out, Int.toNat_natCast] at h
                exact h
              · exact HY2.out.step (HG1.out.block _ HY2.out.lt (HY2.out.ne HO2.out))
            case measure => omega
      · have d2 : decide ((at_.length : Int) < a2) = false := decide_eq_false hmost
        have HSTR := Kd.C_string (P := Try.prog) (c := cp) Try.underlying58 Try.underlying5 Try.underlying9 (HY.out.reads (by have := HL.out; omega))
        rw [HL.out] at HSTR
        have h := HT.out
        rw [drop_T i hlt] at h
        unfold spo at h
        rw [if_neg hmost] at h
        cases h
        go_wp2
        go_ret2
        exact ⟨_, rfl, HO.out, HB.out⟩
    · have d1 : decide ((i : Int) < (l1.length : Int)) = false := decide_eq_false (by omega)
      have HSTR := Kd.C_string (P := Try.prog) (c := cp) Try.underlying58 Try.underlying5 Try.underlying9 (HY.out.reads (by have := HL.out; omega))
      rw [HL.out] at HSTR
      have h := HT.out
      rw [List.drop_eq_nil_of_le (by omega)] at h
      cases h
      go_wp2
      go_ret2
      exact ⟨_, rfl, HO.out, HB.out⟩
theorem silversidelaw03_spoilt.calls (a0 : ByteArray) (A1 : Option Addr) (c1 : Nat) (l1 : List S47) (a2 : Int) (r1 : ByteArray) (r2 : List Int) (w : World) (hr1 : Kd.C k47 w A1 l1.length l1) (hc1 : l1.length ≤ c1) (h : silversidelaw03_spoilt.f a0 l1 a2 = some (r1, r2)) :
    Calls Try.prog 23 #[.string a0, .slice A1 l1.length c1, .int .i64 a2] w fun e w' => ∃ v1_ : Value, e = .returned (.tuple #[.string r1, v1_]) ∧ Kd.R (Kd.int .i64) 3 w' w.heap.size (fun _ => True) v1_ r2 ∧ Below w.heap.size w w' := by
  unfold silversidelaw03_spoilt.f at h
  by_cases hc : 0 < a0.size ∧ a0.size ≤ 100000 ∧ a2 ≤ 1000
  · rw [if_pos hc] at h
    obtain ⟨⟨rB, rA⟩, h1, h2⟩ := Option.bind_eq_some_iff.mp h
    cases h2
    exact spoilt_walk a0 A1 c1 l1 a2 _ _ w hr1 hc.1 hc.2.1 hc.2.2 h1
  · rw [if_neg hc] at h; exact absurd h (by simp)

end Go.Proofs.Ytdgjanjoiabgfaa.Q
