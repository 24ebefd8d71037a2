/- What label's field functions come to: the tables, a product, a power, an inverse. -/
import Derived.Test.YtdgjanjoiabgfaaProg
import Derived.Test.YtdgjanjoiabgfaaRs0
import Derived.Below
import Derived.Deep.Draws
import Derived.OwnWalk
import Derived.Tactics
import Derived.WalkKit
import Derived.KernelRfl
import Derived.RowKit3
import Derived.Deep.LoopGhost
import Derived.Deep.QuietTactic
import Derived.BigQuiet
import Derived.WideLaws
import Derived.Laws.BitsLemmas
import Derived.RowKit
import Derived.RegionTactic
import Derived.ChangeAlike
import Derived.Deep.RegionWith
import Derived.IntWalk
namespace Go.Proofs.Ytdgjanjoiabgfaa.Hand
open Go.RowKit
open Rs (xt pw lg pw_bd lg_pw pw_lg pw_mod)
set_option linter.unusedVariables false
set_option linter.unusedSimpArgs false

theorem hid {p : Prop} (h : p) : Hid p := h
theorem w64_in (n : Int) (h0 : -1000000 ≤ n) (h1 : n ≤ 1000000) : wrap64 n = n := by unfold wrap64; omega
theorem lg_bd : ∀ n, n < 256 → lg n < 255 := by decide +kernel
theorem lg_0 : lg 0 = 0 := by decide +kernel
/-- the powers that are told by the round i -/
def pv (i j : Nat) : Int := if j % 255 < i then pw j else 0
/-- the logarithms that are told by the round i -/
def lv (i j : Nat) : Int := if lg j < i ∧ j ≠ 0 then lg j else 0
def zcells : Array Value := (List.replicate 510 (Value.int .u8 0) ++ List.replicate 256 (Value.int .i64 0)).toArray
theorem zero84 (w : World) : Sem.run Try.prog (zeroValue 84) w = .ok (.agg zcells) w := by kernel_rfl
def Mid (b : Nat) (w : World) (i : Nat) : Prop :=
  (∀ j, j < 510 → w.cell? ⟨b, j, none⟩ = some (.int .u8 (pv i j))) ∧
  (∀ j, j < 256 → w.cell? ⟨b, 510 + j, none⟩ = some (.int .i64 (lv i j))) ∧
  (∀ j, w.frozen? ⟨b, j, none⟩ = false) ∧ b < w.heap.size
def IsField (w : World) (b : Nat) : Prop :=
  (∀ j, j < 510 → w.cell? ⟨b, j, none⟩ = some (.int .u8 (pw j))) ∧
  (∀ j, j < 256 → w.cell? ⟨b, 510 + j, none⟩ = some (.int .i64 (lg j)))
theorem zcells_lo (j : Nat) (h : j < 510) : zcells[j]? = some (.int .u8 0) := by
  unfold zcells; rw [List.getElem?_toArray, List.getElem?_append_left (by rw [List.length_replicate]; exact h), List.getElem?_replicate, if_pos h]
theorem zcells_hi (j : Nat) (h : j < 256) : zcells[510 + j]? = some (.int .i64 0) := by
  unfold zcells; rw [List.getElem?_toArray, List.getElem?_append_right (by rw [List.length_replicate]; omega), List.length_replicate, Nat.add_sub_cancel_left, List.getElem?_replicate, if_pos h]
theorem mid_start (w : World) : Mid w.heap.size (w.alloc (.cells zcells 84)) 0 := by
  refine ⟨fun j hj => ?_, fun j hj => ?_, fun j => by simp, by simp⟩
  · rw [World.cell?_alloc_new, zcells_lo j hj]; simp [pv]
  · rw [World.cell?_alloc_new, zcells_hi j hj]; simp [lv]
theorem mid_next {b i : Nat} {w : World} (h : Mid b w i) (hi : i < 255) :
    Mid b (((w.setCell ⟨b, i, none⟩ (.int .u8 (pw i))).setCell ⟨b, i + 255, none⟩ (.int .u8 (pw i))).setCell ⟨b, 510 + pw i, none⟩ (.int .i64 i)).drew (i + 1) := by
  obtain ⟨h1, h2, h3, h4⟩ := h
  have hp := pw_bd i
  have hlg : lg (pw i) = i := lg_pw i hi
  have ne : ∀ {j k : Nat}, j ≠ k → (⟨b, j, none⟩ : Addr) ≠ ⟨b, k, none⟩ := fun e h => e (by injection h)
  refine ⟨fun j hj => ?_, fun j hj => ?_, fun j => by simp [h3], by simpa using h4⟩
  · rw [World.cell?_drew, World.cell?_setCell_other _ _ _ _ (ne (by omega))]
    by_cases e2 : j = i + 255
    · subst e2
      rw [World.cell?_setCell_same _ _ _ (u := .int .u8 (pv i (i + 255))) (by rw [World.cell?_setCell_other _ _ _ _ (ne (by omega))]; exact h1 _ (by omega))]
      unfold pv; rw [if_pos (by omega), pw_mod (i + 255), pw_mod i]; simp
    · rw [World.cell?_setCell_other _ _ _ _ (ne (Ne.symm e2))]
      by_cases e1 : j = i
      · subst e1
        rw [World.cell?_setCell_same _ _ _ (h1 _ (by omega))]
        unfold pv; rw [if_pos (by omega)]
      · rw [World.cell?_setCell_other _ _ _ _ (ne (Ne.symm e1)), h1 j hj]
        unfold pv
        by_cases hlt : j % 255 < i
        · rw [if_pos hlt, if_pos (by omega)]
        · rw [if_neg hlt, if_neg (by omega)]
  · rw [World.cell?_drew]
    by_cases e : j = pw i
    · subst e
      rw [World.cell?_setCell_same _ _ _ (u := .int .i64 (lv i (pw i))) (by rw [World.cell?_setCell_other _ _ _ _ (ne (by omega)), World.cell?_setCell_other _ _ _ _ (ne (by omega))]; exact h2 _ hp.1)]
      unfold lv; rw [hlg, if_pos ⟨by omega, hp.2⟩]
    · rw [World.cell?_setCell_other _ _ _ _ (ne (by omega)), World.cell?_setCell_other _ _ _ _ (ne (by omega)), World.cell?_setCell_other _ _ _ _ (ne (by omega)), h2 j hj]
      unfold lv
      by_cases j0 : j = 0
      · rw [if_neg (fun h => h.2 j0), if_neg (fun h => h.2 j0)]
      · have hl : lg j ≠ i := fun e' => e (by rw [← e']; exact (pw_lg j hj j0).2.symm)
        by_cases hlt : lg j < i
        · rw [if_pos ⟨hlt, j0⟩, if_pos ⟨by omega, j0⟩]
        · rw [if_neg (fun h => hlt h.1), if_neg (fun h => by omega)]
theorem mid_end {b : Nat} {w : World} (h : Mid b w 255) : IsField w b := by
  refine ⟨fun j hj => ?_, fun j hj => ?_⟩
  · rw [h.1 j hj]; unfold pv; rw [if_pos (Nat.mod_lt _ (by omega))]
  · rw [h.2.1 j hj]; unfold lv
    by_cases j0 : j = 0
    · rw [if_neg (fun h => h.2 j0), j0, lg_0]; rfl
    · rw [if_pos ⟨lg_bd j hj, j0⟩]
theorem xt_big (n : Nat) (h : 255 < (pw n : Int) * 2) : bits BinOp.xor IntKind.i64 ((pw n : Int) * 2) 285 = pw (n + 1) := by
  have e : ∀ a : Nat, a < 256 → 255 < (a : Int) * 2 → bits BinOp.xor IntKind.i64 ((a : Int) * 2) 285 = xt a := by decide +kernel
  exact e _ (pw_bd n).1 h
theorem xt_small (n : Nat) (h : (pw n : Int) * 2 ≤ 255) : (pw n : Int) * 2 = pw (n + 1) := by
  show _ = ((xt (pw n) : Nat) : Int)
  unfold xt; rw [if_neg (by omega)]; omega
/-- what newField hands back -/
def Tabs (w : World) (e : Ending) (w' : World) : Prop := ∃ b, e = .returned (.pointer (some ⟨b, 0, none⟩)) ∧ w.heap.size ≤ b ∧ b < w'.heap.size ∧ IsField w' b ∧ Below w.heap.size w w'
set_option maxHeartbeats 2000000 in
set_option maxRecDepth 100000 in
theorem newField_calls (w : World) : Calls Try.prog 60 #[] w (Tabs w) := by
  have hz := zero84
  go_enter Try.func60, Try.ntmps60
  go_wp2
  clear hz
  go_loopg [2, 6] 255 (fun kq v2 v6 w' => ∃ i : Nat, i + kq = 255 ∧ v2 = .int .i64 (pw i) ∧ v6 = .int .i64 i ∧ Hid (Mid w.heap.size w' i) ∧ Hid (Below w.heap.size w w'))
  case atStart => exact ⟨0, rfl, rfl, rfl, mid_start w, (Below.refl _ _).alloc (Nat.le_refl _) _⟩
  case round =>
    obtain ⟨i, hi, rfl, rfl, hm, hb⟩ := hrel
    by_cases hlt : i < 255
    · have hx : (pw i : Int) < 256 := by have := (pw_bd i).1; omega
      have hx0 : (0 : Int) ≤ pw i := by omega
      have a1 := hm.out.1 i (by omega)
      have a2 := hm.out.1 (i + 255) (by omega)
      have a3 := hm.out.2.1 (pw i) (by omega)
      have f1 := hm.out.2.2.1 i
      have f2 := hm.out.2.2.1 (i + 255)
      have f3 := hm.out.2.2.1 (510 + pw i)
      go_wp2
      go_region
      all_goals go_wp2
      · go_roundg (254 - i)
        case rel => exact ⟨i + 1, by omega, by rw [xt_big i ‹_›], by go_num, mid_next hm.out hlt, (((hb.out.setCell (Nat.le_refl _) _).setCell (Nat.le_refl _) _).setCell (Nat.le_refl _) _).drew⟩
        case measure => omega
      · go_roundg (254 - i)
        case rel => exact ⟨i + 1, by omega, by rw [xt_small i ‹_›], by go_num, mid_next hm.out hlt, (((hb.out.setCell (Nat.le_refl _) _).setCell (Nat.le_refl _) _).setCell (Nat.le_refl _) _).drew⟩
        case measure => omega
    · obtain rfl : i = 255 := by omega
      go_wp2
      go_ret
      exact ⟨_, rfl, Nat.le_refl _, hm.out.2.2.2, mid_end hm.out, hb.out⟩
theorem tables_calls (w : World) : Calls Try.prog 55 #[] w (Tabs w) := by
  go_enter Try.func55, Try.ntmps55
  go_wp2_with (go_at_call 60; refine (newField_calls _).mono ?_; rintro e w1 ⟨b1, rfl, hb1, hb2, hF, hB⟩)
  go_ret
  exact ⟨b1, rfl, hb1, hb2, hF, hB⟩

/-! ### mul -/
def in8 (a : Int) : Bool := decide (0 ≤ a ∧ a < 256)
def label_mul.f (a0 a1 : Int) : Option Int := if in8 a0 = true then (if in8 a1 = true then some (Rs.mulN a0.toNat a1.toNat) else none) else none
def label_exp.f (a0 : Int) : Option Int := if -100000 ≤ a0 ∧ a0 ≤ 100000 then some (pw (a0 % 255).toNat) else none
def label_inv.f (a0 : Int) : Option Int := if in8 a0 = true then some (Rs.invN a0.toNat) else none
theorem in8_nat {a : Int} (h : in8 a = true) : ∃ n : Nat, a = n ∧ n < 256 := by
  have := of_decide_eq_true h
  exact ⟨a.toNat, by omega, by omega⟩
set_option maxHeartbeats 800000 in
set_option maxRecDepth 100000 in
theorem mul_both (a b : Nat) (ha : 0 < a) (hb : 0 < b) (ha' : a < 256) (hb' : b < 256) (w : World) : Calls Try.prog 36 #[.int .u8 a, .int .u8 b] w fun e w' => e = .returned (.int .u8 (pw (lg a + lg b))) ∧ Below w.heap.size w w' := by
  have la := lg_bd a ha'
  have lb := lg_bd b hb'
  have za : ((a : Int) == 0) = false := by simp; omega
  have zb : ((b : Int) == 0) = false := by simp; omega
  go_enter Try.func36, Try.ntmps36
  go_wp2_with (fail)
  have ia : (a : Int) < 256 := by omega
  have ib : (b : Int) < 256 := by omega
  have ia0 : (0 : Int) ≤ (a : Int) := by omega
  have ib0 : (0 : Int) ≤ (b : Int) := by omega
  have s1 : IntKind.i64.wrap ((lg a : Int) + (lg b : Int)) = (lg a : Int) + (lg b : Int) := IntWalk.i64_in _ (by omega)
  have s2 : (0 : Int) ≤ (lg a : Int) + (lg b : Int) := by omega
  have s3 : (lg a : Int) + (lg b : Int) < 510 := by omega
  have s4 : ((lg a : Int) + (lg b : Int)).toNat = lg a + lg b := by omega
  have tok1 : True := trivial
  go_region_with (first
    | (go_at_call 55; have _t := tok1; clear tok1 _t; refine (tables_calls _).mono ?_; rintro e w1 ⟨b1, rfl, hb1, hb2, hF, hB⟩; have g1 := hF.1 (lg a + lg b) (by omega); have B1 := hid hB; clear hF hB; have tok2 : True := trivial)
    | (go_at_call 55; have _t := tok2; clear tok2 _t; refine (tables_calls _).mono ?_; rintro e w2 ⟨b2, rfl, hb3, hb4, hF, hB⟩; have g2 := hF.2 a ha'; have k1 := (hB.cell (p := ⟨b1, lg a + lg b, none⟩) hb2).trans g1; have B2 := hid hB; clear hF hB; have tok3 : True := trivial)
    | (go_at_call 55; have _t := tok3; clear tok3 _t; refine (tables_calls _).mono ?_; rintro e w3 ⟨b3, rfl, hb5, hb6, hF, hB⟩; have g3 := hF.2 b hb'; have k2 := (hB.cell (p := ⟨b1, lg a + lg b, none⟩) (Nat.lt_of_lt_of_le hb2 B2.out.size)).trans k1; have k3 := (hB.cell (p := ⟨b2, 510 + a, none⟩) hb4).trans g2; have B3 := hid hB; clear hF hB))
  all_goals
    go_wp2
    go_ret
    exact ⟨by first | rfl | (simp; done), (((Below.refl _ _).drew.trans (B1.out.mono (by simp))).trans (B2.out.mono (by have := B1.out.size; simp at this; omega))).trans (B3.out.mono (by have := B1.out.size; have := B2.out.size; simp at *; omega))⟩
theorem mul_left0 (b : Int) (w : World) : Calls Try.prog 36 #[.int .u8 0, .int .u8 b] w fun e w' => e = .returned (.int .u8 0) ∧ Below w.heap.size w w' := by
  go_enter Try.func36, Try.ntmps36
  go_wp2
  go_ret
  exact ⟨rfl, Below.refl _ _⟩
theorem mul_right0 (a : Int) (h : (a == 0) = false) (w : World) : Calls Try.prog 36 #[.int .u8 a, .int .u8 0] w fun e w' => e = .returned (.int .u8 0) ∧ Below w.heap.size w w' := by
  go_enter Try.func36, Try.ntmps36
  go_wp2
  go_ret
  exact ⟨rfl, Below.refl _ _⟩
theorem label_mul.calls (a0 a1 : Int) (r : Int) (w : World) (h : label_mul.f a0 a1 = some r) :
    Calls Try.prog 36 #[.int .u8 a0, .int .u8 a1] w fun e w' => e = .returned (.int .u8 r) ∧ Below w.heap.size w w' := by
  unfold label_mul.f at h
  by_cases h0 : in8 a0 = true
  · rw [if_pos h0] at h
    by_cases h1 : in8 a1 = true
    · rw [if_pos h1] at h
      obtain ⟨a, rfl, ha⟩ := in8_nat h0
      obtain ⟨b, rfl, hb⟩ := in8_nat h1
      rw [Int.toNat_natCast, Int.toNat_natCast] at h
      obtain rfl := Option.some.inj h
      clear h
      unfold Rs.mulN
      by_cases a0 : a = 0
      · rw [if_pos (.inl a0), a0]; exact mul_left0 _ w
      · by_cases b0 : b = 0
        · rw [if_pos (.inr b0), b0]; exact mul_right0 _ (by simp; omega) w
        · rw [if_neg (by omega)]; exact mul_both a b (by omega) (by omega) ha hb w
    · rw [if_neg h1] at h; exact absurd h (by simp)
  · rw [if_neg h0] at h; exact absurd h (by simp)

/-! ### exp -/
theorem emod_of (n : Int) (h : -100000 ≤ n ∧ n ≤ 100000) : 0 ≤ n % 255 ∧ n % 255 < 255 ∧ -255 < Int.tmod n 255 ∧ Int.tmod n 255 < 255 ∧ Int.tmod (Int.tmod n 255 + 255) 255 = n % 255 := by
  have h1 : Int.tmod n 255 = if 0 ≤ n ∨ (255 : Int) ∣ n then n % 255 else n % 255 - 255 := by
    rw [Int.tmod_eq_emod]; split <;> simp
  have a : 0 ≤ n % 255 := Int.emod_nonneg _ (by omega)
  have b : n % 255 < 255 := Int.emod_lt_of_pos _ (by omega)
  refine ⟨a, b, ?_, ?_, ?_⟩
  · rw [h1]; split
    · omega
    · rename_i hn; have : n % 255 ≠ 0 := fun e => hn (.inr (Int.dvd_of_emod_eq_zero e)); omega
  · rw [h1]; split <;> omega
  · rw [h1]; split
    · rw [Int.tmod_eq_emod_of_nonneg (by omega)]; omega
    · rw [Int.tmod_eq_emod_of_nonneg (by omega)]; omega
set_option maxHeartbeats 800000 in
set_option maxRecDepth 100000 in
theorem exp_any (n : Int) (h : -100000 ≤ n ∧ n ≤ 100000) (w : World) : Calls Try.prog 54 #[.int .i64 n] w fun e w' => e = .returned (.int .u8 (pw (n % 255).toNat)) ∧ Below w.heap.size w w' := by
  obtain ⟨a, b, c, d, e⟩ := emod_of n h
  obtain ⟨h1, h2⟩ := h
  go_enter Try.func54, Try.ntmps54
  obtain ⟨m, hm⟩ : ∃ m : Nat, n % 255 = m := ⟨(n % 255).toNat, by omega⟩
  obtain ⟨t, ht⟩ : ∃ t : Int, Int.tmod n 255 = t := ⟨_, rfl⟩
  have s1 : wrap64 (t + 255) = t + 255 := w64_in _ (by omega) (by omega)
  have s3 : wrap64 t = t := w64_in _ (by omega) (by omega)
  have s4 : Int.tmod (t + 255) 255 = m := by rw [← ht, e, hm]
  have s5 : wrap64 (m : Int) = m := w64_in _ (by omega) (by omega)
  have b' : (m : Int) < 255 := by omega
  have b2 : (m : Int) < 510 := by omega
  have HM := hid hm
  clear hm e a b
  go_wp2_with (go_at_call 55; refine (tables_calls _).mono ?_; rintro e w1 ⟨b1, rfl, hb1, hb2, hF, hB⟩; have g1 := hF.1 m (by omega); have B1 := hid hB; clear hF hB)
  go_ret
  exact ⟨by rw [HM.out]; rfl, B1.out⟩
theorem label_exp.calls (a0 : Int) (r : Int) (w : World) (h : label_exp.f a0 = some r) :
    Calls Try.prog 54 #[.int .i64 a0] w fun e w' => e = .returned (.int .u8 r) ∧ Below w.heap.size w w' := by
  unfold label_exp.f at h
  by_cases h0 : -100000 ≤ a0 ∧ a0 ≤ 100000
  · rw [if_pos h0] at h
    obtain rfl := Option.some.inj h
    exact exp_any a0 h0 w
  · rw [if_neg h0] at h; exact absurd h (by simp)

/-! ### inv -/
set_option maxHeartbeats 800000 in
set_option maxRecDepth 100000 in
theorem inv_any (a : Nat) (ha : a < 256) (w : World) : Calls Try.prog 51 #[.int .u8 a] w fun e w' => e = .returned (.int .u8 (pw (255 - lg a))) ∧ Below w.heap.size w w' := by
  have la := lg_bd a ha
  have ia : (a : Int) < 256 := by omega
  have ia0 : (0 : Int) ≤ (a : Int) := by omega
  have hpw : pw ((-(lg a : Int)) % 255).toNat = pw (255 - lg a) := by rw [pw_mod (255 - lg a)]; congr 1; omega
  have HP := hid hpw
  clear hpw
  go_enter Try.func51, Try.ntmps51
  have s1 : IntKind.i64.wrap (-(lg a : Int)) = -(lg a : Int) := IntWalk.i64_in _ (by omega)
  have s2 : wrap64 (-(lg a : Int)) = -(lg a : Int) := w64_in _ (by omega) (by omega)
  go_wp2_with (first
    | (go_at_call 55; refine (tables_calls _).mono ?_; rintro e w1 ⟨b1, rfl, hb1, hb2, hF, hB⟩; have g1 := hF.2 a ha; have B1 := hid hB; clear hF hB)
    | (go_at_call 54; refine (exp_any _ (by omega) _).mono ?_; rintro e w2 ⟨rfl, hB⟩; have B2 := hid hB; clear hB))
  go_ret
  exact ⟨by rw [HP.out]; rfl, B1.out.trans (B2.out.mono B1.out.size)⟩
theorem label_inv.calls (a0 : Int) (r : Int) (w : World) (h : label_inv.f a0 = some r) :
    Calls Try.prog 51 #[.int .u8 a0] w fun e w' => e = .returned (.int .u8 r) ∧ Below w.heap.size w w' := by
  unfold label_inv.f at h
  by_cases h0 : in8 a0 = true
  · rw [if_pos h0] at h
    obtain ⟨a, rfl, ha⟩ := in8_nat h0
    rw [Int.toNat_natCast] at h
    obtain rfl := Option.some.inj h
    exact inv_any a ha w
  · rw [if_neg h0] at h; exact absurd h (by simp)
end Go.Proofs.Ytdgjanjoiabgfaa.Hand
