/- A part of the proof: what the law's row needs. -/
import Derived.Test.YtiioklboaookiaaDoorProg
import Derived.Below
import Derived.Deep.Draws
import Derived.OwnWalk
import Derived.Tactics
import Derived.WalkKit
import Derived.KernelRfl
import Derived.RowKit3
import Derived.Deep.LoopGhost
import Derived.Deep.QuietTactic
import Derived.BigQuiet
import Derived.WideLaws
import Derived.Laws.BitsLemmas
import Derived.RowKit
import Derived.RegionTactic
import Derived.ChangeAlike
import Derived.Deep.RegionWith
import Derived.IntWalk
import Derived.Deep.AppendLies
import Derived.Maps.AppendAt
import Derived.Laws.BytesArg
import Derived.Laws.MakeOwn
import Derived.Laws.OwnMore
import Derived.Deep.OwnRows
import Derived.Lib.ConvBytes
import Derived.Laws.Slices
import Derived.Deep.DeepCutAuto
import Derived.Deep.CutBlock
import Derived.Deep.RegionHeld3
import Derived.Laws.Rows
import Derived.Lib.AppendStr
import Derived.ArgAppend
import Derived.Laws.IdiomCopy
import Derived.OrdersHeld
import Derived.Lib.BufferWrite
import Derived.Laws.CopyOwn
import Derived.Maps.Own
import Derived.Maps.OwnOps
import Derived.Maps.OwnSet
import Derived.Maps.Views
import Derived.Test.YtiioklboaookiaaDoorV0
namespace Go.Proofs.YtiioklboaookiaaDoor.Rs
def xt (a : Nat) : Nat := if 2 * a > 255 then (2 * a) ^^^ 285 else 2 * a
def pw : Nat → Nat
 | 0 => 1
 | n + 1 => xt (pw n)
def lgFrom : Nat → Nat → Nat → Nat → Nat
 | 0, _, _, _ => 0
 | k + 1, i, x, a => if x = a then i else lgFrom k (i + 1) (xt x) a
def lg (a : Nat) : Nat := lgFrom 255 0 1 a
def mulN (a b : Nat) : Nat := if a = 0 ∨ b = 0 then 0 else pw (lg a + lg b)
def invN (a : Nat) : Nat := pw (255 - lg a)
theorem lg_pw : ∀ n, n < 255 → lg (pw n) = n := by decide +kernel
theorem pw_bd0 : ∀ n, n < 255 → pw n < 256 ∧ pw n ≠ 0 := by decide +kernel
theorem pw_lg : ∀ a, a < 256 → a ≠ 0 → lg a < 255 ∧ pw (lg a) = a := by decide +kernel
theorem pw_255 : pw 255 = 1 := by decide +kernel
theorem pw_add (n : Nat) : pw (n + 255) = pw n := by
 induction n with
 | zero => rw [Nat.zero_add, pw_255]; rfl
 | succ n ih =>
  have h : pw (n + 255 + 1) = xt (pw (n + 255)) := rfl
  rw [show n + 1 + 255 = n + 255 + 1 from by omega, h, ih]; rfl
theorem pw_mod (n : Nat) : pw n = pw (n % 255) := by
 induction n using Nat.strongRecOn with
 | ind n ih =>
  by_cases h : n < 255
  ·rw [Nat.mod_eq_of_lt h]
  ·obtain ⟨m, rfl⟩ : ∃ m, n = m + 255 := ⟨n - 255, by omega⟩
   rw [pw_add, ih m (by omega), Nat.add_mod_right]
theorem pw_bd (n : Nat) : pw n < 256 ∧ pw n ≠ 0 := by rw [pw_mod]; exact pw_bd0 _ (Nat.mod_lt _ (by omega))
theorem lg_pw' (n : Nat) : lg (pw n) = n % 255 := by rw [pw_mod]; exact lg_pw _ (Nat.mod_lt _ (by omega))
theorem pw_cong {a b : Nat} (h : a % 255 = b % 255) : pw a = pw b := by rw [pw_mod a, pw_mod b, h]
theorem mulN_bd (a b : Nat) : mulN a b < 256 := by unfold mulN; split; omega; exact (pw_bd _).1
theorem mulN_comm (a b : Nat) : mulN a b = mulN b a := by unfold mulN; rw [Nat.add_comm]; simp only [or_comm]
theorem mulN_zero (a : Nat) : mulN a 0 = 0 := by simp [mulN]
theorem zero_mulN (a : Nat) : mulN 0 a = 0 := by simp [mulN]
theorem mulN_pw (m n : Nat) : mulN (pw m) (pw n) = pw (m + n) := by
 unfold mulN; rw [if_neg (by have := (pw_bd m).2; have := (pw_bd n).2; omega), lg_pw', lg_pw']; apply pw_cong; omega
theorem ex_pw {a : Nat} (h : a < 256) (h0 : a ≠ 0) : ∃ n, n < 255 ∧ a = pw n := ⟨lg a, (pw_lg a h h0).1, (pw_lg a h h0).2.symm⟩
theorem mulN_assoc (a b c : Nat) (ha : a < 256) (hb : b < 256) (hc : c < 256) : mulN (mulN a b) c = mulN a (mulN b c) := by
 by_cases a0 : a = 0
 ·subst a0; simp [zero_mulN]
 by_cases b0 : b = 0
 ·subst b0; simp [zero_mulN, mulN_zero]
 by_cases c0 : c = 0
 ·subst c0; simp [mulN_zero]
 obtain ⟨i, _, rfl⟩ := ex_pw ha a0
 obtain ⟨j, _, rfl⟩ := ex_pw hb b0
 obtain ⟨k, _, rfl⟩ := ex_pw hc c0
 simp only [mulN_pw, Nat.add_assoc]
def GF := Fin 256
namespace GF
instance : DecidableEq GF := inferInstanceAs (DecidableEq (Fin 256))
def mk (n : Nat) (h : n < 256) : GF := Fin.mk n h
def v (a : GF) : Nat := Fin.val a
theorem v_lt (a : GF) : a.v < 256 := Fin.isLt a
theorem ext {a b : GF} (h : a.v = b.v) : a = b := Fin.ext h
instance : Zero GF := ⟨mk 0 (by omega)⟩
instance : One GF := ⟨mk 1 (by omega)⟩
instance : Add GF := ⟨fun a b => mk (a.v ^^^ b.v) (Nat.xor_lt_two_pow (n := 8) a.v_lt b.v_lt)⟩
instance : Mul GF := ⟨fun a b => mk (mulN a.v b.v) (mulN_bd _ _)⟩
def al (n : Nat) : GF := mk (pw n) (pw_bd n).1
theorem v_add (a b : GF) : (a + b).v = a.v ^^^ b.v := rfl
theorem add_comm (a b : GF) : a + b = b + a := ext (by simp only [v_add]; ac_rfl)
theorem add_assoc (a b c : GF) : a + b + c = a + (b + c) := ext (by simp only [v_add]; ac_rfl)
theorem mul_comm (a b : GF) : a * b = b * a := ext (mulN_comm _ _)
theorem mul_assoc (a b c : GF) : a * b * c = a * (b * c) := ext (mulN_assoc _ _ _ a.v_lt b.v_lt c.v_lt)
instance : Std.Commutative (α := GF) (· + ·) := ⟨add_comm⟩
instance : Std.Associative (α := GF) (· + ·) := ⟨add_assoc⟩
instance : Std.Commutative (α := GF) (· * ·) := ⟨mul_comm⟩
instance : Std.Associative (α := GF) (· * ·) := ⟨mul_assoc⟩
end GF
end Go.Proofs.YtiioklboaookiaaDoor.Rs
namespace Go.Proofs.YtiioklboaookiaaDoor.Hand
open Go.RowKit
open Rs (xt pw lg pw_bd lg_pw pw_lg pw_mod)
set_option linter.unusedVariables false
set_option linter.unusedSimpArgs false
theorem hid {p : Prop} (h : p) : Hid p := h
theorem w64_in (n : Int) (h0 : -1000000 ≤ n) (h1 : n ≤ 1000000) : wrap64 n = n := by unfold wrap64; omega
theorem lg_bd : ∀ n, n < 256 → lg n < 255 := by decide +kernel
theorem lg_0 : lg 0 = 0 := by decide +kernel
def pv (i j : Nat) : Int := if j % 255 < i then pw j else 0
def lv (i j : Nat) : Int := if lg j < i ∧ j ≠ 0 then lg j else 0
def zcells : Array Value := (List.replicate 510 (Value.int .u8 0) ++ List.replicate 256 (Value.int .i64 0)).toArray
theorem zero84 (w : World) : Sem.run Tryd.prog (zeroValue 113) w = .ok (.agg zcells) w := by kernel_rfl
def Mid (b : Nat) (w : World) (i : Nat) : Prop :=
 (∀ j, j < 510 → w.cell? ⟨b, j, none⟩ = some (.int .u8 (pv i j))) ∧
 (∀ j, j < 256 → w.cell? ⟨b, 510 + j, none⟩ = some (.int .i64 (lv i j))) ∧
 (∀ j, w.frozen? ⟨b, j, none⟩ = false) ∧ b < w.heap.size
def IsField (w : World) (b : Nat) : Prop :=
 (∀ j, j < 510 → w.cell? ⟨b, j, none⟩ = some (.int .u8 (pw j))) ∧
 (∀ j, j < 256 → w.cell? ⟨b, 510 + j, none⟩ = some (.int .i64 (lg j)))
theorem zcells_lo (j : Nat) (h : j < 510) : zcells[j]? = some (.int .u8 0) := by
 unfold zcells; rw [List.getElem?_toArray, List.getElem?_append_left (by rw [List.length_replicate]; exact h), List.getElem?_replicate, if_pos h]
theorem zcells_hi (j : Nat) (h : j < 256) : zcells[510 + j]? = some (.int .i64 0) := by
 unfold zcells; rw [List.getElem?_toArray, List.getElem?_append_right (by rw [List.length_replicate]; omega), List.length_replicate, Nat.add_sub_cancel_left, List.getElem?_replicate, if_pos h]
theorem mid_start (w : World) : Mid w.heap.size (w.alloc (.cells zcells 113)) 0 := by
 refine ⟨fun j hj => ?_, fun j hj => ?_, fun j => by simp, by simp⟩
 ·rw [World.cell?_alloc_new, zcells_lo j hj]; simp [pv]
 ·rw [World.cell?_alloc_new, zcells_hi j hj]; simp [lv]
theorem mid_next {b i : Nat} {w : World} (h : Mid b w i) (hi : i < 255) :
  Mid b (((w.setCell ⟨b, i, none⟩ (.int .u8 (pw i))).setCell ⟨b, i + 255, none⟩ (.int .u8 (pw i))).setCell ⟨b, 510 + pw i, none⟩ (.int .i64 i)).drew (i + 1) := by
 obtain ⟨h1, h2, h3, h4⟩ := h
 have hp := pw_bd i
 have hlg : lg (pw i) = i := lg_pw i hi
 have ne : ∀ {j k : Nat}, j ≠ k → (⟨b, j, none⟩ : Addr) ≠ ⟨b, k, none⟩ := fun e h => e (by injection h)
 refine ⟨fun j hj => ?_, fun j hj => ?_, fun j => by simp [h3], by simpa using h4⟩
 ·rw [World.cell?_drew, World.cell?_setCell_other _ _ _ _ (ne (by omega))]
  by_cases e2 : j = i + 255
  ·subst e2
   rw [World.cell?_setCell_same _ _ _ (u := .int .u8 (pv i (i + 255))) (by rw [World.cell?_setCell_other _ _ _ _ (ne (by omega))]; exact h1 _ (by omega))]
   unfold pv; rw [if_pos (by omega), pw_mod (i + 255), pw_mod i]; simp
  ·rw [World.cell?_setCell_other _ _ _ _ (ne (Ne.symm e2))]
   by_cases e1 : j = i
   ·subst e1
    rw [World.cell?_setCell_same _ _ _ (h1 _ (by omega))]
    unfold pv; rw [if_pos (by omega)]
   ·rw [World.cell?_setCell_other _ _ _ _ (ne (Ne.symm e1)), h1 j hj]
    unfold pv
    by_cases hlt : j % 255 < i
    ·rw [if_pos hlt, if_pos (by omega)]
    ·rw [if_neg hlt, if_neg (by omega)]
 ·rw [World.cell?_drew]
  by_cases e : j = pw i
  ·subst e
   rw [World.cell?_setCell_same _ _ _ (u := .int .i64 (lv i (pw i))) (by rw [World.cell?_setCell_other _ _ _ _ (ne (by omega)), World.cell?_setCell_other _ _ _ _ (ne (by omega))]; exact h2 _ hp.1)]
   unfold lv; rw [hlg, if_pos ⟨by omega, hp.2⟩]
  ·rw [World.cell?_setCell_other _ _ _ _ (ne (by omega)), World.cell?_setCell_other _ _ _ _ (ne (by omega)), World.cell?_setCell_other _ _ _ _ (ne (by omega)), h2 j hj]
   unfold lv
   by_cases j0 : j = 0
   ·rw [if_neg (fun h => h.2 j0), if_neg (fun h => h.2 j0)]
   ·have hl : lg j ≠ i := fun e' => e (by rw [← e']; exact (pw_lg j hj j0).2.symm)
    by_cases hlt : lg j < i
    ·rw [if_pos ⟨hlt, j0⟩, if_pos ⟨by omega, j0⟩]
    ·rw [if_neg (fun h => hlt h.1), if_neg (fun h => by omega)]
theorem mid_end {b : Nat} {w : World} (h : Mid b w 255) : IsField w b := by
 refine ⟨fun j hj => ?_, fun j hj => ?_⟩
 ·rw [h.1 j hj]; unfold pv; rw [if_pos (Nat.mod_lt _ (by omega))]
 ·rw [h.2.1 j hj]; unfold lv
  by_cases j0 : j = 0
  ·rw [if_neg (fun h => h.2 j0), j0, lg_0]; rfl
  ·rw [if_pos ⟨lg_bd j hj, j0⟩]
theorem xt_big (n : Nat) (h : 255 < (pw n : Int) * 2) : bits BinOp.xor IntKind.i64 ((pw n : Int) * 2) 285 = pw (n + 1) := by
 have e : ∀ a : Nat, a < 256 → 255 < (a : Int) * 2 → bits BinOp.xor IntKind.i64 ((a : Int) * 2) 285 = xt a := by decide +kernel
 exact e _ (pw_bd n).1 h
theorem xt_small (n : Nat) (h : (pw n : Int) * 2 ≤ 255) : (pw n : Int) * 2 = pw (n + 1) := by
 show _ = ((xt (pw n) : Nat) : Int)
 unfold xt; rw [if_neg (by omega)]; omega
def Tabs (w : World) (e : Ending) (w' : World) : Prop := ∃ b, e = .returned (.pointer (some ⟨b, 0, none⟩)) ∧ w.heap.size ≤ b ∧ b < w'.heap.size ∧ IsField w' b ∧ Below w.heap.size w w'
set_option maxHeartbeats 2000000 in
set_option maxRecDepth 100000 in
theorem newField_calls (w : World) : Calls Tryd.prog 61 #[] w (Tabs w) := by
 have hz := zero84
 go_enter Tryd.func61, Tryd.ntmps61
 go_wp2
 clear hz
 go_loopg [2, 6] 255 (fun kq v2 v6 w' => ∃ i : Nat, i + kq = 255 ∧ v2 = .int .i64 (pw i) ∧ v6 = .int .i64 i ∧ Hid (Mid w.heap.size w' i) ∧ Hid (Below w.heap.size w w'))
 case atStart => exact ⟨0, rfl, rfl, rfl, mid_start w, (Below.refl _ _).alloc (Nat.le_refl _) _⟩
 case round =>
  obtain ⟨i, hi, rfl, rfl, hm, hb⟩ := hrel
  by_cases hlt : i < 255
  ·have hx : (pw i : Int) < 256 := by have := (pw_bd i).1; omega
   have hx0 : (0 : Int) ≤ pw i := by omega
   have a1 := hm.out.1 i (by omega)
   have a2 := hm.out.1 (i + 255) (by omega)
   have a3 := hm.out.2.1 (pw i) (by omega)
   have f1 := hm.out.2.2.1 i
   have f2 := hm.out.2.2.1 (i + 255)
   have f3 := hm.out.2.2.1 (510 + pw i)
   go_wp2
   go_region
   all_goals go_wp2
   ·go_roundg (254 - i)
    case rel => exact ⟨i + 1, by omega, by rw [xt_big i ‹_›], by go_num, mid_next hm.out hlt, (((hb.out.setCell (Nat.le_refl _) _).setCell (Nat.le_refl _) _).setCell (Nat.le_refl _) _).drew⟩
    case measure => omega
   ·go_roundg (254 - i)
    case rel => exact ⟨i + 1, by omega, by rw [xt_small i ‹_›], by go_num, mid_next hm.out hlt, (((hb.out.setCell (Nat.le_refl _) _).setCell (Nat.le_refl _) _).setCell (Nat.le_refl _) _).drew⟩
    case measure => omega
  ·obtain rfl : i = 255 := by omega
   go_wp2
   go_ret
   exact ⟨_, rfl, Nat.le_refl _, hm.out.2.2.2, mid_end hm.out, hb.out⟩
theorem tables_calls (w : World) : Calls Tryd.prog 41 #[] w (Tabs w) := by
 go_enter Tryd.func41, Tryd.ntmps41
 go_wp2_with (go_at_call 61; refine (newField_calls _).mono ?_; rintro e w1 ⟨b1, rfl, hb1, hb2, hF, hB⟩)
 go_ret
 exact ⟨b1, rfl, hb1, hb2, hF, hB⟩
def in8 (a : Int) : Bool := decide (0 ≤ a ∧ a < 256)
def label_mul.f (a0 a1 : Int) : Option Int := if in8 a0 = true then (if in8 a1 = true then some (Rs.mulN a0.toNat a1.toNat) else none) else none
def label_exp.f (a0 : Int) : Option Int := if -100000 ≤ a0 ∧ a0 ≤ 100000 then some (pw (a0 % 255).toNat) else none
def label_inv.f (a0 : Int) : Option Int := if in8 a0 = true then some (Rs.invN a0.toNat) else none
theorem in8_nat {a : Int} (h : in8 a = true) : ∃ n : Nat, a = n ∧ n < 256 := by
 have := of_decide_eq_true h
 exact ⟨a.toNat, by omega, by omega⟩
set_option maxHeartbeats 800000 in
set_option maxRecDepth 100000 in
theorem mul_both (a b : Nat) (ha : 0 < a) (hb : 0 < b) (ha' : a < 256) (hb' : b < 256) (w : World) : Calls Tryd.prog 24 #[.int .u8 a, .int .u8 b] w fun e w' => e = .returned (.int .u8 (pw (lg a + lg b))) ∧ Below w.heap.size w w' := by
 have la := lg_bd a ha'
 have lb := lg_bd b hb'
 have za : ((a : Int) == 0) = false := by simp; omega
 have zb : ((b : Int) == 0) = false := by simp; omega
 go_enter Tryd.func24, Tryd.ntmps24
 go_wp2_with (fail)
 have ia : (a : Int) < 256 := by omega
 have ib : (b : Int) < 256 := by omega
 have ia0 : (0 : Int) ≤ (a : Int) := by omega
 have ib0 : (0 : Int) ≤ (b : Int) := by omega
 have s1 : IntKind.i64.wrap ((lg a : Int) + (lg b : Int)) = (lg a : Int) + (lg b : Int) := IntWalk.i64_in _ (by omega)
 have s2 : (0 : Int) ≤ (lg a : Int) + (lg b : Int) := by omega
 have s3 : (lg a : Int) + (lg b : Int) < 510 := by omega
 have s4 : ((lg a : Int) + (lg b : Int)).toNat = lg a + lg b := by omega
 have tok1 : True := trivial
 go_region_with (first
  | (go_at_call 41; have _t := tok1; clear tok1 _t; refine (tables_calls _).mono ?_; rintro e w1 ⟨b1, rfl, hb1, hb2, hF, hB⟩; have g1 := hF.1 (lg a + lg b) (by omega); have B1 := hid hB; clear hF hB; have tok2 : True := trivial)
  | (go_at_call 41; have _t := tok2; clear tok2 _t; refine (tables_calls _).mono ?_; rintro e w2 ⟨b2, rfl, hb3, hb4, hF, hB⟩; have g2 := hF.2 a ha'; have k1 := (hB.cell (p := ⟨b1, lg a + lg b, none⟩) hb2).trans g1; have B2 := hid hB; clear hF hB; have tok3 : True := trivial)
  | (go_at_call 41; have _t := tok3; clear tok3 _t; refine (tables_calls _).mono ?_; rintro e w3 ⟨b3, rfl, hb5, hb6, hF, hB⟩; have g3 := hF.2 b hb'; have k2 := (hB.cell (p := ⟨b1, lg a + lg b, none⟩) (Nat.lt_of_lt_of_le hb2 B2.out.size)).trans k1; have k3 := (hB.cell (p := ⟨b2, 510 + a, none⟩) hb4).trans g2; have B3 := hid hB; clear hF hB))
 all_goals
  go_wp2
  go_ret
  exact ⟨by first | rfl | (simp; done), (((Below.refl _ _).drew.trans (B1.out.mono (by simp))).trans (B2.out.mono (by have := B1.out.size; simp at this; omega))).trans (B3.out.mono (by have := B1.out.size; have := B2.out.size; simp at *; omega))⟩
theorem mul_left0 (b : Int) (w : World) : Calls Tryd.prog 24 #[.int .u8 0, .int .u8 b] w fun e w' => e = .returned (.int .u8 0) ∧ Below w.heap.size w w' := by
 go_enter Tryd.func24, Tryd.ntmps24
 go_wp2
 go_ret
 exact ⟨rfl, Below.refl _ _⟩
theorem mul_right0 (a : Int) (h : (a == 0) = false) (w : World) : Calls Tryd.prog 24 #[.int .u8 a, .int .u8 0] w fun e w' => e = .returned (.int .u8 0) ∧ Below w.heap.size w w' := by
 go_enter Tryd.func24, Tryd.ntmps24
 go_wp2
 go_ret
 exact ⟨rfl, Below.refl _ _⟩
theorem label_mul.calls (a0 a1 : Int) (r : Int) (w : World) (h : label_mul.f a0 a1 = some r) :
  Calls Tryd.prog 24 #[.int .u8 a0, .int .u8 a1] w fun e w' => e = .returned (.int .u8 r) ∧ Below w.heap.size w w' := by
 unfold label_mul.f at h
 by_cases h0 : in8 a0 = true
 ·rw [if_pos h0] at h
  by_cases h1 : in8 a1 = true
  ·rw [if_pos h1] at h
   obtain ⟨a, rfl, ha⟩ := in8_nat h0
   obtain ⟨b, rfl, hb⟩ := in8_nat h1
   rw [Int.toNat_natCast, Int.toNat_natCast] at h
   obtain rfl := Option.some.inj h
   clear h
   unfold Rs.mulN
   by_cases a0 : a = 0
   ·rw [if_pos (.inl a0), a0]; exact mul_left0 _ w
   ·by_cases b0 : b = 0
    ·rw [if_pos (.inr b0), b0]; exact mul_right0 _ (by simp; omega) w
    ·rw [if_neg (by omega)]; exact mul_both a b (by omega) (by omega) ha hb w
  ·rw [if_neg h1] at h; exact absurd h (by simp)
 ·rw [if_neg h0] at h; exact absurd h (by simp)
theorem emod_of (n : Int) (h : -100000 ≤ n ∧ n ≤ 100000) : 0 ≤ n % 255 ∧ n % 255 < 255 ∧ -255 < Int.tmod n 255 ∧ Int.tmod n 255 < 255 ∧ Int.tmod (Int.tmod n 255 + 255) 255 = n % 255 := by
 have h1 : Int.tmod n 255 = if 0 ≤ n ∨ (255 : Int) ∣ n then n % 255 else n % 255 - 255 := by
  rw [Int.tmod_eq_emod]; split <;> simp
 have a : 0 ≤ n % 255 := Int.emod_nonneg _ (by omega)
 have b : n % 255 < 255 := Int.emod_lt_of_pos _ (by omega)
 refine ⟨a, b, ?_, ?_, ?_⟩
 ·rw [h1]; split
  ·omega
  ·rename_i hn; have : n % 255 ≠ 0 := fun e => hn (.inr (Int.dvd_of_emod_eq_zero e)); omega
 ·rw [h1]; split <;> omega
 ·rw [h1]; split
  ·rw [Int.tmod_eq_emod_of_nonneg (by omega)]; omega
  ·rw [Int.tmod_eq_emod_of_nonneg (by omega)]; omega
set_option maxHeartbeats 800000 in
set_option maxRecDepth 100000 in
theorem exp_any (n : Int) (h : -100000 ≤ n ∧ n ≤ 100000) (w : World) : Calls Tryd.prog 40 #[.int .i64 n] w fun e w' => e = .returned (.int .u8 (pw (n % 255).toNat)) ∧ Below w.heap.size w w' := by
 obtain ⟨a, b, c, d, e⟩ := emod_of n h
 obtain ⟨h1, h2⟩ := h
 go_enter Tryd.func40, Tryd.ntmps40
 obtain ⟨m, hm⟩ : ∃ m : Nat, n % 255 = m := ⟨(n % 255).toNat, by omega⟩
 obtain ⟨t, ht⟩ : ∃ t : Int, Int.tmod n 255 = t := ⟨_, rfl⟩
 have s1 : wrap64 (t + 255) = t + 255 := w64_in _ (by omega) (by omega)
 have s3 : wrap64 t = t := w64_in _ (by omega) (by omega)
 have s4 : Int.tmod (t + 255) 255 = m := by rw [← ht, e, hm]
 have s5 : wrap64 (m : Int) = m := w64_in _ (by omega) (by omega)
 have b' : (m : Int) < 255 := by omega
 have b2 : (m : Int) < 510 := by omega
 have HM := hid hm
 clear hm e a b
 go_wp2_with (go_at_call 41; refine (tables_calls _).mono ?_; rintro e w1 ⟨b1, rfl, hb1, hb2, hF, hB⟩; have g1 := hF.1 m (by omega); have B1 := hid hB; clear hF hB)
 go_ret
 exact ⟨by rw [HM.out]; rfl, B1.out⟩
theorem label_exp.calls (a0 : Int) (r : Int) (w : World) (h : label_exp.f a0 = some r) :
  Calls Tryd.prog 40 #[.int .i64 a0] w fun e w' => e = .returned (.int .u8 r) ∧ Below w.heap.size w w' := by
 unfold label_exp.f at h
 by_cases h0 : -100000 ≤ a0 ∧ a0 ≤ 100000
 ·rw [if_pos h0] at h
  obtain rfl := Option.some.inj h
  exact exp_any a0 h0 w
 ·rw [if_neg h0] at h; exact absurd h (by simp)
end Go.Proofs.YtiioklboaookiaaDoor.Hand
namespace Go.Proofs.YtiioklboaookiaaDoor.Hand
open Go.RowKit Go.Proofs.YtiioklboaookiaaDoorW.PrintWords Go.Proofs.YtiioklboaookiaaDoorW.PrintLast Go.Proofs.YtiioklboaookiaaDoorW.PrintMore
open Rs (xt pw_bd lg_pw pw_lg pw_mod)
attribute [local go_sem] max2_int min2_int max_two min_two max_three min_three max_four min_four
set_option linter.unusedVariables false
set_option linter.unusedSimpArgs false
theorem Tryd.infoU8 : (Tryd.prog.info? 5).map (fun i => (i.zero, i.size, i.bytes)) = some (some (.int .u8 0), 1, 1) := by kernel_rfl
theorem info_size {P : Program} {e : Nat} {z : Value} {b : Nat} (h : (P.info? e).map (fun i => (i.zero, i.size, i.bytes)) = some (some z, 1, b)) : (P.info? e).map (·.size) = some 1 := by
 cases hi : P.info? e with
 | none => rw [hi] at h; simp at h
 | some i => rw [hi] at h; simp at h; simp [h.2.1]
def label_extend.f (l0 : List Int) (a1 : Int) : Option (List Int) := if 0 ≤ a1 then (if a1 ≤ 100000 then (if (l0.length : Int) ≤ 100000 then some (l0 ++ List.replicate (a1.toNat - l0.length) 0) else none) else none) else none
end Go.Proofs.YtiioklboaookiaaDoor.Hand
namespace Go.Proofs.YtiioklboaookiaaDoor.Hand
open Go.RowKit Go.Proofs.YtiioklboaookiaaDoorW.PrintWords Go.Proofs.YtiioklboaookiaaDoorW.PrintLast Go.Proofs.YtiioklboaookiaaDoorW.PrintMore
open Rs (xt pw_bd lg_pw pw_lg pw_mod)
attribute [local go_sem] max2_int min2_int max_two min_two max_three min_three max_four min_four
set_option linter.unusedVariables false
set_option linter.unusedSimpArgs false
theorem mulN_in {x y : Int} : in8 (Rs.mulN x.toNat y.toNat : Nat) = true := decide_eq_true (by have := Rs.mulN_bd x.toNat y.toNat; omega)
theorem label_mul.some {x y : Int} (hx : in8 x = true) (hy : in8 y = true) : label_mul.f x y = Option.some ((Rs.mulN x.toNat y.toNat : Nat) : Int) := by
 unfold label_mul.f; rw [if_pos hx, if_pos hy]
set_option maxHeartbeats 1000000 in
set_option maxRecDepth 100000 in
theorem times1_skip (i k : Nat) (lim : Int) (bl bo bp bq : Nat) (w : World) (hi : (i : Int) ≤ 100000) (hk : (k : Int) ≤ 100000) (hL : w.heap[bl]? = some (.cells #[.int .i64 lim] 3 (0, 0))) (h : lim ≤ (i : Int) + k) :
  Calls Tryd.prog 60 #[.int .i64 i, .int .i64 k, .pointer (some ⟨bl, 0, none⟩), .pointer (some ⟨bo, 0, none⟩), .pointer (some ⟨bp, 0, none⟩), .pointer (some ⟨bq, 0, none⟩)] w fun e w' => e = .returned (.tuple #[]) ∧ Drawn0 w w' := by
 have c1 := cell_of_one hL
 have d : decide ((i : Int) + k < lim) = false := decide_eq_false (by omega)
 clear hL
 go_enter Tryd.func60, Tryd.ntmps60
 go_wp2
 go_end0
 exact ⟨rfl, Drawn0.refl _⟩
set_option maxHeartbeats 4000000 in
set_option maxRecDepth 100000 in
theorem times1_does (i k : Nat) (lim x y z m : Int) (bl bo bp bq g n cap lp cp lq cq : Nat) (ap aq : Addr) (w : World) (hi : (i : Int) ≤ 100000) (hk : (k : Int) ≤ 100000)
  (hL : w.heap[bl]? = some (.cells #[.int .i64 lim] 3 (0, 0))) (hO : w.heap[bo]? = some (.cells #[.slice (some ⟨g, 0, none⟩) n cap] 84 (0, 0)))
  (hP : w.heap[bp]? = some (.cells #[.slice (some ap) lp cp] 84 (0, 0))) (hQ : w.heap[bq]? = some (.cells #[.slice (some aq) lq cq] 84 (0, 0)))
  (h : (i : Int) + k < lim) (hn : i + k < n) (hlp : i < lp) (hlq : k < lq) (hx : w.cell? (ap.add i) = some (.int .u8 x)) (hy : w.cell? (aq.add k) = some (.int .u8 y))
  (hz : w.cell? ⟨g, i + k, none⟩ = some (.int .u8 z)) (hf : w.frozen? ⟨g, i + k, none⟩ = false) (hm : label_mul.f x y = some m) :
  Calls Tryd.prog 60 #[.int .i64 i, .int .i64 k, .pointer (some ⟨bl, 0, none⟩), .pointer (some ⟨bo, 0, none⟩), .pointer (some ⟨bp, 0, none⟩), .pointer (some ⟨bq, 0, none⟩)] w fun e w' =>
   e = .returned (.tuple #[]) ∧ ∃ w1, Below w.heap.size w w1 ∧ w' = w1.setCell ⟨g, i + k, none⟩ (.int .u8 (Go.bits .xor .u8 z m)) := by
 have c1 := cell_of_one hL
 have c2 := cell_of_one hO
 have c3 := cell_of_one hP
 have c4 := cell_of_one hQ
 have d : decide ((i : Int) + k < lim) = true := decide_eq_true h
 have l2 := World.block_lt_of_cell? w _ c2
 have l3 := World.block_lt_of_cell? w _ c3
 have l4 := World.block_lt_of_cell? w _ c4
 have lx := World.block_lt_of_cell? w _ hx
 have ly := World.block_lt_of_cell? w _ hy
 have lz := World.block_lt_of_cell? w _ hz
 have hM := hid hm
 clear hm h hL hO hP hQ
 go_enter Tryd.func60, Tryd.ntmps60
 have e0 : (0 : Int) ≤ (i : Int) + k := by omega
 have e1 : (i : Int) + k < (n : Int) := by omega
 have e2 : ((i : Int) + k).toNat = i + k := by omega
 have e3 : IntKind.i64.wrap ((i : Int) + (k : Int)) = (i : Int) + (k : Int) := IntWalk.i64_in _ (by omega)
 have e4 : (i : Int) < lp := by omega
 have e5 : (k : Int) < lq := by omega
 have e6 : (0 : Int) ≤ (i : Int) := by omega
 have e7 : (0 : Int) ≤ (k : Int) := by omega
 go_wp2_with (fail)
 refine start_ (n := 18) (S := fun w' => w'.cell? ⟨bo, 0, none⟩ = some (.slice (some ⟨g, 0, none⟩) n cap) ∧ w'.cell? ⟨bp, 0, none⟩ = some (.slice (some ap) lp cp) ∧ w'.cell? ⟨bq, 0, none⟩ = some (.slice (some aq) lq cq) ∧ w'.cell? (ap.add i) = some (.int .u8 x) ∧ w'.cell? (aq.add k) = some (.int .u8 y) ∧ w'.cell? ⟨g, i + k, none⟩ = some (.int .u8 z)) (ds := [17]) #[false, false, false, false, false, false, false, false, false, false, false, false, false, false, false, false, false, false] (by kernel_rfl) rfl rfl ⟨c2, c3, c4, hx, hy, hz⟩ (fun hHeld => ?_)
 refine pure_ (i := 1) (N := some 14) (v := ?_) (a' := ?_) #[false, true, false, false, false, false, false, false, false, false, false, false, false, false, false, false, false, false] rfl rfl (by kernel_rfl) (fun _ _ _ h => h) (Or.inl ⟨by rfl, ?_⟩) ?_ ?_
 rotate_left
 ·intro w'
  go_simp
  with_reducible rfl
 rotate_left
 ·simp only [Act.put, List.setIfInBounds_toArray, List.set_cons_zero, List.set_cons_succ, i64_w, i32_w]
  rfl
 refine pure_ (i := 2) (N := some 15) (v := ?_) (a' := ?_) #[false, true, true, false, false, false, false, false, false, false, false, false, false, false, false, false, false, false] rfl rfl (by kernel_rfl) (fun _ _ _ h => h) (Or.inl ⟨by rfl, ?_⟩) ?_ ?_
 rotate_left
 ·intro w'
  go_simp
  with_reducible rfl
 rotate_left
 ·simp only [Act.put, List.setIfInBounds_toArray, List.set_cons_zero, List.set_cons_succ, i64_w, i32_w]
  rfl
 refine pure_ (i := 3) (N := some 16) (v := ?_) (a' := ?_) #[false, true, true, true, false, false, false, false, false, false, false, false, false, false, false, false, false, false] rfl rfl (by kernel_rfl) (fun _ _ _ h => h) (Or.inl ⟨by rfl, ?_⟩) ?_ ?_
 rotate_left
 ·intro w'
  go_simp
  with_reducible rfl
 rotate_left
 ·simp only [Act.put, List.setIfInBounds_toArray, List.set_cons_zero, List.set_cons_succ, i64_w, i32_w]
  rfl
 refine pure_ (i := 7) (N := some 20) (v := ?_) (a' := ?_) #[false, true, true, true, false, false, false, true, false, false, false, false, false, false, false, false, false, false] rfl rfl (by kernel_rfl) (fun _ _ _ h => h) (Or.inl ⟨by rfl, ?_⟩) ?_ ?_
 rotate_left
 ·intro w'
  go_simp
  with_reducible rfl
 rotate_left
 ·simp only [Act.put, List.setIfInBounds_toArray, List.set_cons_zero, List.set_cons_succ, i64_w, i32_w]
  rfl
 refine pure_ (i := 11) (N := some 24) (v := ?_) (a' := ?_) #[false, true, true, true, false, false, false, true, false, false, false, true, false, false, false, false, false, false] rfl rfl (by kernel_rfl) (fun _ _ _ h => h) (Or.inl ⟨by rfl, ?_⟩) ?_ ?_
 rotate_left
 ·intro w'
  go_simp
  with_reducible rfl
 rotate_left
 ·simp only [Act.put, List.setIfInBounds_toArray, List.set_cons_zero, List.set_cons_succ, i64_w, i32_w]
  rfl
 refine take_ (i := 0) (N := some 13) (v := ?_) (a' := ?_) #[true, true, true, true, false, false, false, true, false, false, false, true, false, false, false, false, false, false] rfl rfl (by kernel_rfl) (fun _ _ _ h => h) (Or.inl ⟨by rfl, ?_⟩) hHeld ?_ ?_
 rotate_left
 ·rintro w' ⟨s0, s1, s2, s3, s4, s5⟩
  go_simp
  with_reducible rfl
 rotate_left
 ·simp only [Act.put, List.setIfInBounds_toArray, List.set_cons_zero, List.set_cons_succ, i64_w, i32_w]
  rfl
 refine pure_ (i := 4) (N := some 17) (v := ?_) (a' := ?_) #[true, true, true, true, true, false, false, true, false, false, false, true, false, false, false, false, false, false] rfl rfl (by kernel_rfl) (fun _ _ _ h => h) (Or.inl ⟨by rfl, ?_⟩) ?_ ?_
 rotate_left
 ·intro w'
  go_simp
  with_reducible rfl
 rotate_left
 ·simp only [Act.put, List.setIfInBounds_toArray, List.set_cons_zero, List.set_cons_succ, i64_w, i32_w]
  rfl
 refine take_ (i := 5) (N := some 18) (v := ?_) (a' := ?_) #[true, true, true, true, true, true, false, true, false, false, false, true, false, false, false, false, false, false] rfl rfl (by kernel_rfl) (fun _ _ _ h => h) (Or.inl ⟨by rfl, ?_⟩) hHeld ?_ ?_
 rotate_left
 ·rintro w' ⟨s0, s1, s2, s3, s4, s5⟩
  go_simp
  with_reducible rfl
 rotate_left
 ·simp only [Act.put, List.setIfInBounds_toArray, List.set_cons_zero, List.set_cons_succ, i64_w, i32_w]
  rfl
 refine take_ (i := 6) (N := some 19) (v := ?_) (a' := ?_) #[true, true, true, true, true, true, true, true, false, false, false, true, false, false, false, false, false, false] rfl rfl (by kernel_rfl) (fun _ _ _ h => h) (Or.inl ⟨by rfl, ?_⟩) hHeld ?_ ?_
 rotate_left
 ·rintro w' ⟨s0, s1, s2, s3, s4, s5⟩
  go_simp
  with_reducible rfl
 rotate_left
 ·simp only [Act.put, List.setIfInBounds_toArray, List.set_cons_zero, List.set_cons_succ, i64_w, i32_w]
  rfl
 refine pure_ (i := 8) (N := some 21) (v := ?_) (a' := ?_) #[true, true, true, true, true, true, true, true, true, false, false, true, false, false, false, false, false, false] rfl rfl (by kernel_rfl) (fun _ _ _ h => h) (Or.inl ⟨by rfl, ?_⟩) ?_ ?_
 rotate_left
 ·intro w'
  go_simp
  with_reducible rfl
 rotate_left
 ·simp only [Act.put, List.setIfInBounds_toArray, List.set_cons_zero, List.set_cons_succ, i64_w, i32_w]
  rfl
 refine take_ (i := 9) (N := some 22) (v := ?_) (a' := ?_) #[true, true, true, true, true, true, true, true, true, true, false, true, false, false, false, false, false, false] rfl rfl (by kernel_rfl) (fun _ _ _ h => h) (Or.inl ⟨by rfl, ?_⟩) hHeld ?_ ?_
 rotate_left
 ·rintro w' ⟨s0, s1, s2, s3, s4, s5⟩
  go_simp
  with_reducible rfl
 rotate_left
 ·simp only [Act.put, List.setIfInBounds_toArray, List.set_cons_zero, List.set_cons_succ, i64_w, i32_w]
  rfl
 refine take_ (i := 10) (N := some 23) (v := ?_) (a' := ?_) #[true, true, true, true, true, true, true, true, true, true, true, true, false, false, false, false, false, false] rfl rfl (by kernel_rfl) (fun _ _ _ h => h) (Or.inl ⟨by rfl, ?_⟩) hHeld ?_ ?_
 rotate_left
 ·rintro w' ⟨s0, s1, s2, s3, s4, s5⟩
  go_simp
  with_reducible rfl
 rotate_left
 ·simp only [Act.put, List.setIfInBounds_toArray, List.set_cons_zero, List.set_cons_succ, i64_w, i32_w]
  rfl
 refine pure_ (i := 12) (N := some 25) (v := ?_) (a' := ?_) #[true, true, true, true, true, true, true, true, true, true, true, true, true, false, false, false, false, false] rfl rfl (by kernel_rfl) (fun _ _ _ h => h) (Or.inl ⟨by rfl, ?_⟩) ?_ ?_
 rotate_left
 ·intro w'
  go_simp
  with_reducible rfl
 rotate_left
 ·simp only [Act.put, List.setIfInBounds_toArray, List.set_cons_zero, List.set_cons_succ, i64_w, i32_w]
  rfl
 refine take_ (i := 13) (N := some 26) (v := ?_) (a' := ?_) #[true, true, true, true, true, true, true, true, true, true, true, true, true, true, false, false, false, false] rfl rfl (by kernel_rfl) (fun _ _ _ h => h) (Or.inl ⟨by rfl, ?_⟩) hHeld ?_ ?_
 rotate_left
 ·rintro w' ⟨s0, s1, s2, s3, s4, s5⟩
  go_simp
  with_reducible rfl
 rotate_left
 ·simp only [Act.put, List.setIfInBounds_toArray, List.set_cons_zero, List.set_cons_succ, i64_w, i32_w]
  rfl
 refine one_ (i := 14) (N := some 27) #[true, true, true, true, true, true, true, true, true, true, true, true, true, true, true, false, false, false] rfl rfl (by kernel_rfl) (by decide) (fun K hK => ?_)
 refine goes_ Tryd.func24 (by kernel_rfl) rfl #[.int .u8 x, .int .u8 y] (by rfl) rfl rfl (by (try simp only [List.map_toArray, List.map_cons, List.map_nil]); first | done | rfl) ?_
 with_reducible refine (label_mul.calls x y m _ hM.out).mono ?_
 rintro e w1 ⟨rfl, hB⟩
 have B1 := Aside0.mk hB
 clear hB
 have gz := (B1.out.cell (p := ⟨g, i + k, none⟩) (by simpa using lz)).trans hz
 have gf := (B1.out.frozen (p := ⟨g, i + k, none⟩) (by simpa using lz)).trans hf
 refine ⟨_, rfl, ?_⟩
 refine hK.out _ _ ⟨(B1.out.cell (p := ⟨bo, 0, none⟩) (by simpa using l2)).trans c2, (B1.out.cell (p := ⟨bp, 0, none⟩) (by simpa using l3)).trans c3, (B1.out.cell (p := ⟨bq, 0, none⟩) (by simpa using l4)).trans c4, (B1.out.cell (p := ap.add i) (by simpa using lx)).trans hx, (B1.out.cell (p := aq.add k) (by simpa using ly)).trans hy, gz⟩ (fun hHeld => ?_)
 clear hK K
 refine norm_ (a' := ?_) ?_ ?_
 rotate_left
 ·show Act.put _ (some 27) _ = _
  simp only [Act.put, List.setIfInBounds_toArray, List.set_cons_zero, List.set_cons_succ, i64_w, i32_w]
  rfl
 refine pure_ (i := 15) (N := some 28) (v := ?_) (a' := ?_) #[true, true, true, true, true, true, true, true, true, true, true, true, true, true, true, true, false, false] rfl rfl (by kernel_rfl) (fun _ _ _ h => h) (Or.inl ⟨by rfl, ?_⟩) ?_ ?_
 rotate_left
 ·intro w'
  go_simp
  with_reducible rfl
 rotate_left
 ·simp only [Act.put, List.setIfInBounds_toArray, List.set_cons_zero, List.set_cons_succ, i64_w, i32_w]
  rfl
 refine pure_ (i := 16) (N := some 29) (v := ?_) (a' := ?_) #[true, true, true, true, true, true, true, true, true, true, true, true, true, true, true, true, true, false] rfl rfl (by kernel_rfl) (fun _ _ _ h => h) (Or.inl ⟨by rfl, ?_⟩) ?_ ?_
 rotate_left
 ·intro w'
  go_simp
  with_reducible rfl
 rotate_left
 ·simp only [Act.put, List.setIfInBounds_toArray, List.set_cons_zero, List.set_cons_succ, i64_w, i32_w]
  rfl
 refine last_ (i := 17) (N := none) #[true, true, true, true, true, true, true, true, true, true, true, true, true, true, true, true, true, true] rfl rfl (by kernel_rfl) (by decide) (fun K hK => ?_)
 refine skip_ (w1 := ?_) (by rfl) rfl ?_ ?_
 rotate_left
 ·go_simp
  rfl
 refine hK.out _ _ ?_
 clear hK K
 refine done_ (by kernel_rfl) ?_
 try go_wp2
 go_end0
 exact ⟨rfl, _, (Below.refl _ _).drew.trans (B1.out.mono (by simp)), rfl⟩
def tin (x : Int) : List Int → Nat → List Int → List Int
 | [], _, out => out
 | y :: q, a, out => tin x q (a + 1) (out.set a (Go.bits .xor .u8 (rd out a) (Rs.mulN x.toNat y.toNat : Nat)))
def tout (q : List Int) : List Int → Nat → List Int → List Int
 | [], _, out => out
 | x :: p, a, out => tout q p (a + 1) (tin x q a out)
def bytesB (l : List Int) : Bool := l.all in8
def label_times.f (l0 l1 : List Int) (a2 : Int) : Option (List Int) :=
 if 0 ≤ a2 ∧ a2 ≤ 100000 ∧ (l0.length : Int) ≤ 100000 ∧ (l1.length : Int) ≤ 100000 ∧ bytesB l0 = true ∧ bytesB l1 = true then some (tout l1 l0 0 (List.replicate a2.toNat 0)) else none
theorem bytesB_rd {l : List Int} (h : bytesB l = true) (i : Nat) (hi : i < l.length) : in8 (rd l i) = true := by
 unfold rd; rw [Int.toNat_natCast, List.getD_eq_getElem?_getD, List.getElem?_eq_getElem hi]
 exact List.all_eq_true.1 h _ (List.getElem_mem hi)
theorem drop_rd {l : List Int} (i : Nat) (hi : i < l.length) : l.drop i = rd l i :: l.drop (i + 1) := by
 unfold rd; rw [Int.toNat_natCast, List.getD_eq_getElem?_getD, List.getElem?_eq_getElem hi, List.drop_eq_getElem_cons hi]; rfl
theorem set_out {l : List Int} (i : Nat) (v : Int) (h : l.length ≤ i) : l.set i v = l := List.set_eq_of_length_le h
theorem R_made {w : World} {base g n : Nat} {e : TypeId} (hb : base ≤ g) (h : w.heap[g]? = some (.cells (madeCells #[.int .u8 0] n) e (0, 0))) (hn : n ≤ maxLen) :
  Kd.R (Kd.int .u8) e w base (fun _ => True) (.slice (some ⟨g, 0, none⟩) n n) (List.replicate n 0) := by
 refine Kd.R_of_own (h1 := fun _ => rfl) ?_ (fun _ _ => trivial)
 refine ⟨by simp [encs], .inr ⟨g, n, _, by simp, hb, h, by simp, hn, by rw [size_madeCells, Nat.mul_one], ?_⟩⟩
 apply List.ext_getElem
 ·simp [size_madeCells, encs]
 ·intro j h1 h2
  simp [madeCells, encs, Nat.mod_one]
def Boxes (B : Nat) (A0 : Option Addr) (n0 c0 : Nat) (A1 : Option Addr) (n1 c1 n : Nat) (w : World) : Prop :=
 w.heap[B]? = some (.cells #[.slice A0 n0 c0] 84 (0, 0)) ∧ w.heap[B + 1]? = some (.cells #[.slice A1 n1 c1] 84 (0, 0)) ∧
 w.heap[B + 1 + 1]? = some (.cells #[.int .i64 n] 3 (0, 0)) ∧ w.heap[B + 1 + 1 + 1 + 1]? = some (.cells #[.slice (some ⟨B + 1 + 1 + 1, 0, none⟩) n n] 84 (0, 0))
theorem lt_of_some {α : Type} {a : Array α} {i : Nat} {v : α} (h : a[i]? = some v) : i < a.size := by
 rcases Nat.lt_or_ge i a.size with h' | h'
 ·exact h'
 ·rw [Array.getElem?_eq_none h'] at h; exact absurd h (by simp)
theorem Boxes.lt {B : Nat} {A0 : Option Addr} {n0 c0 : Nat} {A1 : Option Addr} {n1 c1 n : Nat} {w : World} (h : Boxes B A0 n0 c0 A1 n1 c1 n w) : B < w.heap.size ∧ B + 1 < w.heap.size ∧ B + 1 + 1 < w.heap.size ∧ B + 1 + 1 + 1 + 1 < w.heap.size :=
 ⟨lt_of_some h.1, lt_of_some h.2.1, lt_of_some h.2.2.1, lt_of_some h.2.2.2⟩
theorem heap_old (w : World) (o : Obj) (k : Nat) (h : k < w.heap.size) : (w.alloc o).heap[k]? = w.heap[k]? := Below.heap_alloc w o k h
theorem heap_new (w : World) (o : Obj) (k : Nat) (h : k = w.heap.size) : (w.alloc o).heap[k]? = some o := by
 subst h; show (w.heap.push o)[w.heap.size]? = _; simp
theorem times_boxes (w : World) (A0 : Option Addr) (n0 c0 : Nat) (A1 : Option Addr) (n1 c1 n : Nat) (R : Obj) : Boxes w.heap.size A0 n0 c0 A1 n1 c1 n
  (((((w.alloc (.cells #[.slice A0 n0 c0] 84)).alloc (.cells #[.slice A1 n1 c1] 84)).alloc (.cells #[.int .i64 n] 3)).alloc R).alloc (.cells #[.slice (some ⟨w.heap.size + 1 + 1 + 1, 0, none⟩) n n] 84)) := by
 refine ⟨?_, ?_, ?_, ?_⟩
 ·rw [heap_old _ _ _ (by first | (simp; done) | (simp; omega)), heap_old _ _ _ (by first | (simp; done) | (simp; omega)), heap_old _ _ _ (by first | (simp; done) | (simp; omega)), heap_old _ _ _ (by simp), heap_new _ _ _ rfl]
 ·rw [heap_old _ _ _ (by first | (simp; done) | (simp; omega)), heap_old _ _ _ (by first | (simp; done) | (simp; omega)), heap_old _ _ _ (by simp), heap_new _ _ _ (by simp)]
 ·rw [heap_old _ _ _ (by first | (simp; done) | (simp; omega)), heap_old _ _ _ (by simp), heap_new _ _ _ (by simp)]
 ·rw [heap_new _ _ _ (by simp)]
theorem times_row (w : World) (a b c : Obj) (d : Obj) (v : Value) (t : TypeId) : (((((w.alloc a).alloc b).alloc c).alloc d).alloc (.cells #[v] t)).heap[w.heap.size + 1 + 1 + 1]? = some d := by
 rw [heap_old _ _ _ (by simp), heap_new _ _ _ (by simp)]
set_option maxHeartbeats 4000000 in
set_option maxRecDepth 100000 in
theorem times_walk (A0 : Option Addr) (c0 : Nat) (l0 : List Int) (A1 : Option Addr) (c1 : Nat) (l1 : List Int) (n : Nat) (r : List Int) (w : World) (hr0 : Kd.C (Kd.int .u8) w A0 l0.length l0) (hc0 : l0.length ≤ c0) (hr1 : Kd.C (Kd.int .u8) w A1 l1.length l1) (hc1 : l1.length ≤ c1)
  (hn : (n : Int) ≤ 100000) (h0 : (l0.length : Int) ≤ 100000) (h1 : (l1.length : Int) ≤ 100000) (b0 : bytesB l0 = true) (b1 : bytesB l1 = true) (hr : tout l1 l0 0 (List.replicate n 0) = r) :
  Calls Tryd.prog 39 #[.slice A0 l0.length c0, .slice A1 l1.length c1, .int .i64 n] w fun e w' => ∃ v0_ : Value, e = .returned (v0_) ∧ Kd.R (Kd.int .u8) 5 w' w.heap.size (fun _ => True) v0_ r ∧ Below w.heap.size w w' := by
 have HR0 := Aside0.mk hr0
 have HR1 := Aside0.mk hr1
 have HH := Aside0.mk hr
 have HB0 := Aside0.mk b0
 have HB1 := Aside0.mk b1
 clear hr0 hr1 hr hc0 hc1 b0 b1
 have n0 : (0 : Int) ≤ (n : Int) := by omega
 have hmk := fun w => run_make_row' (P := Tryd.prog) 84 5 (.int .u8 0) 1 Tryd.underlying84 Tryd.infoU8 rfl .i64 .i64 n (by omega) (by omega) w
 go_enter Tryd.func39, Tryd.ntmps39
 go_wp2
 clear hmk
 go_loopg [16] l0.length (fun kq v16 w' => ∃ (i : Nat) (l : List Int), v16 = .int .i64 i ∧ i + kq = l0.length ∧ Aside0 (tout l1 (l0.drop i) i l = r) ∧ Aside0 (l.length = n) ∧ Aside0 (Boxes w.heap.size A0 l0.length c0 A1 l1.length c1 n w') ∧ Aside0 (Kd.R (Kd.int .u8) 5 w' w.heap.size (fun _ => True) (.slice (some ⟨w.heap.size + 1 + 1 + 1, 0, none⟩) n n) l) ∧ Aside0 (Below w.heap.size w w'))
 case atStart =>
  refine ⟨0, List.replicate n 0, rfl, by omega, ⟨HH.out⟩, ⟨List.length_replicate⟩, ⟨?_⟩, ⟨?_⟩, ⟨?_⟩⟩
  ·exact times_boxes _ _ _ _ _ _ _ _ _
  ·exact R_made (by omega) (times_row _ _ _ _ _ _ _) (by unfold maxLen; omega)
  ·exact ((((((Below.refl _ _).alloc (Nat.le_refl _) _).alloc (by simp) _).alloc (by first | (simp; done) | (simp; omega)) _).alloc (by first | (simp; done) | (simp; omega)) _).alloc (by first | (simp; done) | (simp; omega)) _)
 case round =>
  obtain ⟨i, l, rfl, hi, HT, HL, HX, HO, HB⟩ := hrel
  by_cases hlt : i < l0.length
  ·have d1 : decide ((i : Int) < (l0.length : Int)) = true := decide_eq_true (by omega)
   obtain ⟨x1, x2, x3, x4⟩ := HX.out
   have y1 := cell_of_one x1
   have y2 := cell_of_one x2
   clear x1 x2 x3 x4
   go_wp2
   clear y1 y2
   go_loopg [21] l1.length (fun kq v21 w' => ∃ (k : Nat) (l : List Int), v21 = .int .i64 k ∧ k + kq = l1.length ∧ Aside0 (tout l1 (l0.drop (i + 1)) (i + 1) (tin (rd l0 i) (l1.drop k) (i + k) l) = r) ∧ Aside0 (l.length = n) ∧ Aside0 (Boxes w.heap.size A0 l0.length c0 A1 l1.length c1 n w') ∧ Aside0 (Kd.R (Kd.int .u8) 5 w' w.heap.size (fun _ => True) (.slice (some ⟨w.heap.size + 1 + 1 + 1, 0, none⟩) n n) l) ∧ Aside0 (Below w.heap.size w w'))
   case atStart => exact ⟨0, l, rfl, by omega, ⟨by have := HT.out; rw [drop_rd i hlt] at this; exact this⟩, HL, HX, HO, HB⟩
   case round =>
    clear HT HL HX HO HB
    obtain ⟨k, l, rfl, hk, HT, HL, HX, HO, HB⟩ := hrel
    by_cases hkt : k < l1.length
    ·have d2 : decide ((k : Int) < (l1.length : Int)) = true := decide_eq_true (by omega)
     by_cases hin : i + k < n
     ·obtain ⟨ax, ex, hx0⟩ := Kd.at_int HR0.out (i : Int) (by omega) (by omega)
      obtain ⟨ay, ey, hy0⟩ := Kd.at_int HR1.out (k : Int) (by omega) (by omega)
      obtain ⟨hz0, hf0⟩ := Kd.R_celln 0 HO.out ((i + k : Nat) : Int) (by omega) (by omega)
      rw [Int.toNat_natCast] at hx0 hy0 hz0 hf0
      have hx := (HB.out.cell (World.block_lt_of_cell? w _ hx0)).trans hx0
      have hy := (HB.out.cell (World.block_lt_of_cell? w _ hy0)).trans hy0
      have HX1 := hid hx
      have HX2 := hid hy
      have HX3 := hid hz0
      have HX4 := hid hf0
      have HX5 := hid ex
      have HX6 := hid ey
      clear hx hy hx0 hy0 hz0 hf0 ex ey
      go_wp2_with (go_at_call 60; refine (times1_does i k n (rd l0 i) (rd l1 k) (rdOf 0 l ((i + k : Nat) : Int)) _ (w.heap.size + 1 + 1) (w.heap.size + 1 + 1 + 1 + 1) w.heap.size (w.heap.size + 1) (w.heap.size + 1 + 1 + 1) n n l0.length c0 l1.length c1 ax ay _ (by omega) (by omega) HX.out.2.2.1 HX.out.2.2.2 (by have := HX.out.1; rw [HX5.out] at this; exact this) (by have := HX.out.2.1; rw [HX6.out] at this; exact this) (by omega) hin hlt hkt HX1.out HX2.out HX3.out HX4.out (label_mul.some (bytesB_rd HB0.out i hlt) (bytesB_rd HB1.out k hkt))).mono ?_; rintro e w2 ⟨rfl, w1, hB, rfl⟩; have B1 := Aside0.mk hB; clear hB)
      go_roundg (l1.length - (k + 1))
      case rel =>
       have e1 : k + (1 : Nat) = k + 1 := rfl
       refine ⟨k + 1, l.set (i + k) (Go.bits .xor .u8 (rd l (i + k : Nat)) (Rs.mulN (rd l0 i).toNat (rd l1 k).toNat : Nat)), by go_num, by omega, ⟨by have := HT.out; rw [drop_rd k hkt] at this; exact this⟩, ⟨by rw [List.length_set]; exact HL.out⟩, ⟨?_⟩, ⟨?_⟩, ⟨?_⟩⟩
       ·obtain ⟨x1, x2, x3, x4⟩ := HX.out
        exact ⟨blk_far ((B1.out.block _ (Boxes.lt HX.out).1).trans x1) (by dsimp only; omega) _, blk_far ((B1.out.block _ (Boxes.lt HX.out).2.1).trans x2) (by dsimp only; omega) _, blk_far ((B1.out.block _ (Boxes.lt HX.out).2.2.1).trans x3) (by dsimp only; omega) _, blk_far ((B1.out.block _ (Boxes.lt HX.out).2.2.2).trans x4) (by dsimp only; omega) _⟩
       ·have := Kd.R_putn (Kd.R_below HO.out B1.out) ((i + k : Nat) : Int) (Go.bits .xor .u8 (rd l (i + k : Nat)) (Rs.mulN (rd l0 i).toNat (rd l1 k).toNat : Nat))
        rw [Int.toNat_natCast] at this
        exact this
       ·exact (HB.out.trans (B1.out.mono HB.out.size)).setCell (by dsimp only; omega) _
      case measure => omega
     ·go_wp2_with (go_at_call 60; refine (times1_skip i k n (w.heap.size + 1 + 1) (w.heap.size + 1 + 1 + 1 + 1) w.heap.size (w.heap.size + 1) _ (by omega) (by omega) HX.out.2.2.1 (by omega)).mono ?_; rintro e w2 ⟨rfl, ⟨nd, rfl⟩⟩)
      go_roundg (l1.length - (k + 1))
      case rel => exact ⟨k + 1, l, by go_num, by omega, ⟨by have := HT.out; rw [drop_rd k hkt] at this; unfold tin at this; rw [set_out _ _ (by have := HL.out; omega)] at this; exact this⟩, HL, ⟨HX.out⟩, ⟨Kd.R_drewN HO.out _⟩, ⟨pw_below_drewN HB.out _⟩⟩
      case measure => omega
    ·have d2 : decide ((k : Int) < (l1.length : Int)) = false := decide_eq_false (by omega)
     go_wp2
     go_roundg (l0.length - (i + 1))
     case rel => exact ⟨i + 1, l, by go_num, by omega, ⟨by have := HT.out; have e : l1.drop k = [] := List.drop_eq_nil_of_le (by omega); rw [e] at this; exact this⟩, HL, HX, HO, HB⟩
     case measure => omega
  ·have d1 : decide ((i : Int) < (l0.length : Int)) = false := decide_eq_false (by omega)
   have y4 := cell_of_one HX.out.2.2.2
   go_wp2
   go_ret
   exact ⟨_, rfl, by have h1 := HT.out; have e : l0.drop i = [] := List.drop_eq_nil_of_le (by omega); rw [e] at h1; exact h1 ▸ HO.out, HB.out⟩
theorem label_times.calls (A0 : Option Addr) (c0 : Nat) (l0 : List Int) (A1 : Option Addr) (c1 : Nat) (l1 : List Int) (a2 : Int) (r : List Int) (w : World) (hr0 : Kd.C (Kd.int .u8) w A0 l0.length l0) (hc0 : l0.length ≤ c0) (hr1 : Kd.C (Kd.int .u8) w A1 l1.length l1) (hc1 : l1.length ≤ c1) (h : label_times.f l0 l1 a2 = some r) :
  Calls Tryd.prog 39 #[.slice A0 l0.length c0, .slice A1 l1.length c1, .int .i64 a2] w fun e w' => ∃ v0_ : Value, e = .returned (v0_) ∧ Kd.R (Kd.int .u8) 5 w' w.heap.size (fun _ => True) v0_ r ∧ Below w.heap.size w w' := by
 unfold label_times.f at h
 by_cases hc : 0 ≤ a2 ∧ a2 ≤ 100000 ∧ (l0.length : Int) ≤ 100000 ∧ (l1.length : Int) ≤ 100000 ∧ bytesB l0 = true ∧ bytesB l1 = true
 ·rw [if_pos hc] at h
  obtain rfl := Option.some.inj h
  obtain ⟨h0, h1, h2, h3, h4, h5⟩ := hc
  obtain ⟨n, rfl⟩ := Int.eq_ofNat_of_zero_le h0
  exact times_walk A0 c0 l0 A1 c1 l1 n _ w hr0 hc0 hr1 hc1 h1 h2 h3 h4 h5 rfl
 ·rw [if_neg hc] at h; exact absurd h (by simp)
end Go.Proofs.YtiioklboaookiaaDoor.Hand
namespace Go.Proofs.YtiioklboaookiaaDoor.Hand
open Go.RowKit Go.Proofs.YtiioklboaookiaaDoorW.PrintWords Go.Proofs.YtiioklboaookiaaDoorW.PrintLast Go.Proofs.YtiioklboaookiaaDoorW.PrintMore
open Rs (xt pw_bd lg_pw pw_lg pw_mod)
attribute [local go_sem] max2_int min2_int max_two min_two max_three min_three max_four min_four
set_option linter.unusedVariables false
set_option linter.unusedSimpArgs false
theorem xor_nat (k : IntKind) (j : Nat) (hj : j ≤ k.bits) (hk : ∀ n : Int, 0 ≤ n → n < 2 ^ j → k.wrap n = n) (a b : Nat) (ha : a < 2 ^ j) (hb : b < 2 ^ j) :
  Go.bits .xor k a b = ((a ^^^ b : Nat) : Int) := by
 have hp : 2 ^ j ≤ 2 ^ k.bits := Nat.pow_le_pow_right (by decide) hj
 have ha' : a % 2 ^ k.bits = a := Nat.mod_eq_of_lt (Nat.lt_of_lt_of_le ha hp)
 have hb' : b % 2 ^ k.bits = b := Nat.mod_eq_of_lt (Nat.lt_of_lt_of_le hb hp)
 have cast : ∀ n : Nat, n < 2 ^ j → ((n : Nat) : Int) < 2 ^ j := fun n h => by exact_mod_cast h
 simp only [Go.bits, BitVec.ofInt_natCast, BitVec.toNat_xor, BitVec.toNat_ofNat, ha', hb']
 exact hk _ (Int.natCast_nonneg _) (cast _ (Nat.xor_lt_two_pow ha hb))
theorem xor8 (a b : Nat) (ha : a < 256) (hb : b < 256) : Go.bits .xor .u8 (a : Int) (b : Int) = ((a ^^^ b : Nat) : Int) := xor_nat .u8 8 (by decide) wraps_u8 a b ha hb
theorem xor_in8 {x y : Int} (hx : in8 x = true) (hy : in8 y = true) : in8 (Go.bits .xor .u8 x y) = true := by
 obtain ⟨a, rfl, ha⟩ := in8_nat hx
 obtain ⟨b, rfl, hb⟩ := in8_nat hy
 rw [xor8 a b ha hb]
 have : a ^^^ b < 256 := Nat.xor_lt_two_pow (n := 8) ha hb
 exact decide_eq_true (by omega)
theorem bytesB_set {l : List Int} (h : bytesB l = true) (i : Nat) {v : Int} (hv : in8 v = true) : bytesB (l.set i v) = true := by
 refine List.all_eq_true.2 fun x hx => ?_
 rcases List.mem_or_eq_of_mem_set hx with h1 | h1
 ·exact List.all_eq_true.1 h x h1
 ·rw [h1]; exact hv
theorem bytesB_append {l m : List Int} (h : bytesB l = true) (h' : bytesB m = true) : bytesB (l ++ m) = true := by unfold bytesB; rw [List.all_append, show l.all in8 = true from h, show m.all in8 = true from h']; rfl
theorem bytesB_zeros (n : Nat) : bytesB (List.replicate n 0) = true := List.all_eq_true.2 fun x hx => by rw [(List.mem_replicate.1 hx).2]; rfl
theorem bytesB_bytesOf (s : ByteArray) : bytesB (bytesOf s) = true := List.all_eq_true.2 fun x hx => by
 obtain ⟨b, _, rfl⟩ := List.mem_map.1 hx
 exact decide_eq_true (by have := b.toNat_lt; omega)
section
variable {P : Program} {ops : Array Oper} {rest : List Oper} {o : Oper} {a : Act} {Q : Exit → Act → World → Prop}
theorem R_copy_str {w0 W : World} (base : Nat) (hgd : o.guard = none) (s x : Operand) (t t' e : TypeId)
  (ho : o.op = .call { callee := .builtin .copy, args := #[s, x], argTypes := #[t, t'] }) (ht : P.underlying t = some (.slice e)) (hinfo : (P.info? e).map (·.size) = some 1)
  (v : Value) (xs : List Int) (y : ByteArray) (ok : Nat → Prop) (hs : a.eval s = v) (hx : a.eval x = .string y)
  (HO : (Kd.int .u8).R e W base ok v xs) (hl : y.size ≤ xs.length) (HB : Below base w0 W) (hbase : base ≤ W.heap.size)
  (h : ∀ w1, (Kd.int .u8).R e w1 base ok v (bytesOf y ++ xs.drop y.size) → Below base w0 w1 → wpList P ops Q rest (a.put o.dst (.int .i64 (y.size : Int))) w1) :
  wpList P ops Q (o :: rest) a W := by
 have hown := Kd.own_of_R (enc := Value.int .u8) (h1 := fun _ => rfl) HO
 have fin : ∀ w1, (Builtin.copy_ #[t, t'] o.type #[v, .string y]).run P W = .ok (goInt (y.size : Int)) w1 → (Kd.int .u8).R e w1 base ok v (bytesOf y ++ xs.drop y.size) → Below base w0 w1 → wpList P ops Q (o :: rest) a W := by
  intro w1 hr hrow hb
  refine wpList_plain hgd fun K hK => ?_
  unfold Oper.wp execOp
  simp only [ho, resolve, invoke, builtin, Sem.run_bind, Sem.run_pure, Result.andThen_ok, List.map_toArray, List.map_cons, List.map_nil, hs, hx, hr]
  exact hK _ _ (h w1 hrow hb)
 rcases hown.2 with ⟨hv, h0⟩ | ⟨g, cap, cur, hv, hb, hh, hnc, hcm, hcs, htake⟩
 ·refine fin W ?_ ?_ HB
  ·rw [hv, show y.size = 0 from by omega]
   exact Lib.run_copy_empty_string W t t' o.type e _ _ _ y ht (by rw [hinfo]; rfl) (by omega)
  ·have e0 : bytesOf y = [] := List.eq_nil_of_length_eq_zero (by rw [bytesOf_length]; omega)
   rw [e0, show y.size = 0 from by omega]; exact HO
 ·have hr := Lib.run_copy_row_string (P := P) W t t' o.type e g 0 xs.length cap y cur e ht hinfo hh hl (by omega)
  have hnew : bytesOf y ++ xs.drop y.size = bytesOf y ++ xs.drop y.size := rfl
  refine fin _ (by rw [hv]; exact hr) ?_ (below_setRow HB hb _)
  refine Kd.R_of_own (h1 := fun _ => rfl) ?_ HO.1
  have hbl : (bytesOf y).length = y.size := bytesOf_length y
  have hlen : (bytesOf y ++ xs.drop y.size).length = xs.length := by rw [List.length_append, List.length_drop, hbl]; omega
  rw [hlen]
  have hbc : (Lib.byteCells y.data.toList).length = y.size := by rw [Lib.byteCells_length, ← Lib.size_eq]
  refine ⟨by rw [encs_length, hlen, Nat.mul_one], .inr ⟨g, cap, _, hv, hb, setRow_heap W g cur _ e _ hh, hnc, hcm, ?_, ?_⟩⟩
  ·simp only [List.size_toArray, List.length_append, List.length_take, List.length_drop, hbc, Array.length_toList]
   omega
  ·rw [Nat.mul_one] at htake ⊢
   simp only [List.take_zero, List.nil_append, Nat.zero_add]
   rw [List.take_append, hbc, List.take_of_length_le (by rw [hbc]; exact hl), encs_append]
   congr 1
   ·simp only [encs, bytesOf, Lib.byteCells, List.map_map]; rfl
   ·have : encs (Value.int .u8) (xs.drop y.size) = (encs (Value.int .u8) xs).drop y.size := by simp [encs, List.map_drop]
    rw [this, ← htake, List.drop_take]
end
theorem strOfNums_size (l : List Int) : (strOfNums l).size = l.length := by show ((l.map fun n => UInt8.ofNat n.toNat).toArray).size = _; simp
end Go.Proofs.YtiioklboaookiaaDoor.Hand
namespace Go.Proofs.YtiioklboaookiaaDoor.Hand
open Go.RowKit Go.Proofs.YtiioklboaookiaaDoorW.PrintWords Go.Proofs.YtiioklboaookiaaDoorW.PrintLast Go.Proofs.YtiioklboaookiaaDoorW.PrintMore
open Rs (xt pw_bd lg_pw pw_lg pw_mod)
attribute [local go_sem] max2_int min2_int max_two min_two max_three min_three max_four min_four
set_option linter.unusedVariables false
set_option linter.unusedSimpArgs false
def spL (n : Int) : List Int → List Int → Option (List Int)
 | [], out => some out
 | i :: l, out => if i < 0 ∨ n ≤ i then none else if i ∈ out then spL n l out else spL n l (out ++ [i])
def label_spots.f (l0 : List Int) (a1 : Int) : Option (List Int × Bool) :=
 if (l0.length : Int) > 255 then some ([], false) else if 0 ≤ a1 ∧ a1 ≤ 255 then
  (match spL a1 l0 [] with
   | none => some ([], false)
   | some out => some (out, true)) else none
def MapIs (b n : Nat) (l : List Int) (w : World) : Prop := ∃ D : DataW Unit, w.ownsMap Tryd.prog 3 (plainElem Tryd.prog 4) b n D ∧ Maps.IsMap D ∧ ∀ x : Int, D.atKey (.int .i64 x) (.lit (.bool false)) = .lit (.bool (decide (x ∈ l)))
theorem MapIs.put {b n : Nat} {l : List Int} {D : DataW Unit} {w' : World} (h2 : Maps.IsMap D) (h3 : ∀ x : Int, D.atKey (.int .i64 x) (.lit (.bool false)) = .lit (.bool (decide (x ∈ l)))) (x : Int)
  (h1 : w'.ownsMap Tryd.prog 3 (plainElem Tryd.prog 4) b n (D.put (.int .i64 x) (.lit (.bool true)))) : MapIs b n (l ++ [x]) w' := by
 refine ⟨_, h1, h2.put _ _, fun y => ?_⟩
 by_cases e : y = x
 ·subst e; rw [Maps.atKey_put_same (k := .int .i64 y) h2 trivial]; simp
 ·rw [Maps.atKey_put_other (fun h => e (by injection h)), h3 y]
  simp [e]
theorem MapIs.drewN {b n : Nat} {l : List Int} {w : World} (h : MapIs b n l w) (m : Nat) : MapIs b n l (w.drewN m) := by
 obtain ⟨D, h1, h2, h3⟩ := h
 exact ⟨D, h1, h2, h3⟩
def chg (b lost : List Int) : List Int → Nat → Int → Int → Int × Int
 | [], _, al, ot => (al, ot)
 | x :: a, i, al, ot => if x = rd b i then chg b lost a (i + 1) al ot else if (i : Int) ∈ lost then chg b lost a (i + 1) (al + 1) ot else chg b lost a (i + 1) (al + 1) (ot + 1)
def smallB (l : List Int) : Bool := l.all fun x => decide (0 ≤ x ∧ x < 100000)
def label_changes.f (l0 l1 l2 : List Int) : Option (Int × Int) :=
 if l0.length ≤ l1.length ∧ (l0.length : Int) ≤ 100000 ∧ (l2.length : Int) ≤ 100000 ∧ smallB l2 = true then some (chg l1 l2 l0 0 0 0) else none
end Go.Proofs.YtiioklboaookiaaDoor.Hand
namespace Go.Proofs.YtiioklboaookiaaDoor.Q
open Go.RowKit Go.Proofs.YtiioklboaookiaaDoorW.PrintWords Go.Proofs.YtiioklboaookiaaDoorW.PrintLast Go.Proofs.YtiioklboaookiaaDoor.Hand Go.Proofs.YtiioklboaookiaaDoorW.PrintMore
attribute [local go_sem] max2_int min2_int max_two min_two max_three min_three max_four min_four
set_option linter.unusedVariables false
set_option linter.unusedSimpArgs false
def errW : Option Int → Value
 | none => .nilIface
 | some c => .iface 0 (.int .i64 c)
theorem errW_none : errW none = .nilIface := rfl
theorem errW_some (c : Int) : errW (some c) = .iface 0 (.int .i64 c) := rfl
theorem info32 : (Tryd.prog.info? 32).map (fun i => (i.zero, i.size, i.bytes)) = some (some (.agg #[(.int .i64 0), (.int .i64 0), (.int .i64 0), (.int .i64 0), (.int .i64 0)]), 5, 40) := by kernel_rfl
theorem info34 : (Tryd.prog.info? 34).map (fun i => (i.zero, i.size, i.bytes)) = some (some (.agg #[(.int .i64 0), (.int .i64 0), (.int .i64 0)]), 3, 24) := by kernel_rfl
theorem info72 : (Tryd.prog.info? 72).map (fun i => (i.zero, i.size, i.bytes)) = some (some (.agg #[(.int .i64 0), (.int .i64 0)]), 2, 16) := by kernel_rfl
structure S34 where
 f0 : Int
 f1 : Int
 f2 : Int
def z34 : S34 := ⟨(0 : Int), (0 : Int), (0 : Int)⟩
def k34 : Kd S34 := Kd.iso (Kd.pair (Kd.int .i64) (Kd.pair (Kd.int .i64) (Kd.int .i64))) (fun x : S34 => (x.f0, x.f1, x.f2))
theorem k34_open {w : World} {x : S34} {cs : List Value} (h : k34.K w x cs) : cs = [.int .i64 x.f0, .int .i64 x.f1, .int .i64 x.f2] := by
 obtain ⟨_, _, rfl, rfl, ⟨_, _, rfl, rfl, rfl⟩⟩ := h
 exact rfl
theorem k34_mk (w : World) (x : S34)  : k34.K w x [.int .i64 x.f0, .int .i64 x.f1, .int .i64 x.f2] := ⟨[.int .i64 x.f0], [.int .i64 x.f1, .int .i64 x.f2], rfl, rfl, ⟨[.int .i64 x.f1], [.int .i64 x.f2], rfl, rfl, rfl⟩⟩
theorem k34_mkM (w : World) (base : Nat) (ok : Nat → Prop) (x : S34)  : k34.M w base ok x [.int .i64 x.f0, .int .i64 x.f1, .int .i64 x.f2] := ⟨[.int .i64 x.f0], [.int .i64 x.f1, .int .i64 x.f2], rfl, rfl, ⟨[.int .i64 x.f1], [.int .i64 x.f2], rfl, rfl, rfl⟩⟩
def rd_T34 (xs : List S34) (i : Int) : S34 := xs.getD i.toNat z34
theorem at_T34 {w : World} {A : Option Addr} {n : Nat} {xs : List S34} (h : Kd.C k34 w A n xs) (i : Int) (h0 : 0 ≤ i) (h1 : i < n) : ∃ ad , A = some ad ∧ w.cell? (ad.add (i.toNat * 3)) = some (.int .i64 (rd_T34 xs i).f0) ∧ w.cell? ⟨(ad.add (i.toNat * 3)).block, (ad.add (i.toNat * 3)).off + 1, none⟩ = some (.int .i64 (rd_T34 xs i).f1) ∧ w.cell? ⟨(ad.add (i.toNat * 3)).block, (ad.add (i.toNat * 3)).off + 2, none⟩ = some (.int .i64 (rd_T34 xs i).f2) := by
 obtain ⟨ad, c, e, _, hK, hc0⟩ := Kd.C_get h z34 i h0 h1
 have hc : ∀ j u, c[j]? = some u → w.cell? (ad.add (i.toNat * 3 + j)) = some u := hc0
 obtain rfl := k34_open hK
 exact ⟨ad, e, hc 0 _ rfl, by rw [← add_field _ _ 1 (by omega)]; exact hc 1 _ rfl, by rw [← add_field _ _ 2 (by omega)]; exact hc 2 _ rfl⟩
structure S72 where
 f0 : Int
 f1 : Int
def z72 : S72 := ⟨(0 : Int), (0 : Int)⟩
def k72 : Kd S72 := Kd.iso (Kd.pair (Kd.int .i64) (Kd.int .i64)) (fun x : S72 => (x.f0, x.f1))
theorem k72_open {w : World} {x : S72} {cs : List Value} (h : k72.K w x cs) : cs = [.int .i64 x.f0, .int .i64 x.f1] := by
 obtain ⟨_, _, rfl, rfl, rfl⟩ := h
 exact rfl
theorem k72_mkM (w : World) (base : Nat) (ok : Nat → Prop) (x : S72)  : k72.M w base ok x [.int .i64 x.f0, .int .i64 x.f1] := ⟨[.int .i64 x.f0], [.int .i64 x.f1], rfl, rfl, rfl⟩
def rd_T72 (xs : List S72) (i : Int) : S72 := xs.getD i.toNat z72
theorem at_T72 {w : World} {A : Option Addr} {n : Nat} {xs : List S72} (h : Kd.C k72 w A n xs) (i : Int) (h0 : 0 ≤ i) (h1 : i < n) : ∃ ad , A = some ad ∧ w.cell? (ad.add (i.toNat * 2)) = some (.int .i64 (rd_T72 xs i).f0) ∧ w.cell? ⟨(ad.add (i.toNat * 2)).block, (ad.add (i.toNat * 2)).off + 1, none⟩ = some (.int .i64 (rd_T72 xs i).f1) := by
 obtain ⟨ad, c, e, _, hK, hc0⟩ := Kd.C_get h z72 i h0 h1
 have hc : ∀ j u, c[j]? = some u → w.cell? (ad.add (i.toNat * 2 + j)) = some u := hc0
 obtain rfl := k72_open hK
 exact ⟨ad, e, hc 0 _ rfl, by rw [← add_field _ _ 1 (by omega)]; exact hc 1 _ rfl⟩
def rd_L3 (xs : List (List S72)) (i : Int) : (List S72) := xs.getD i.toNat ([] : List S72)
theorem at_L3 {w : World} {A : Option Addr} {n : Nat} {xs : List (List S72)} (h : Kd.C (Kd.slice 72 k72) w A n xs) (i : Int) (h0 : 0 ≤ i) (h1 : i < n) : ∃ ad A0 c0, A = some ad ∧ w.cell? (ad.add i.toNat) = some (.slice A0 (rd_L3 xs i).length c0) ∧ (rd_L3 xs i).length ≤ c0 ∧ k72.C w A0 (rd_L3 xs i).length (rd_L3 xs i) := by
 obtain ⟨ad, c, e, _, hK, hc0⟩ := Kd.C_get h ([] : List S72) i h0 h1
 have hc : ∀ j u, c[j]? = some u → w.cell? (ad.add (i.toNat * 1 + j)) = some u := hc0
 obtain ⟨A0, c0, rfl, l0, g0⟩ := hK
 exact ⟨ad, A0, c0, e, by have hq := hc 0 _ rfl; rwa [Nat.mul_one, Nat.add_zero] at hq, l0, g0⟩
structure S32 where
 f0 : Int
 f1 : Int
 f2 : Int
 f3 : Int
 f4 : Int
def z32 : S32 := ⟨(0 : Int), (0 : Int), (0 : Int), (0 : Int), (0 : Int)⟩
def k32 : Kd S32 := Kd.iso (Kd.pair (Kd.int .i64) (Kd.pair (Kd.int .i64) (Kd.pair (Kd.int .i64) (Kd.pair (Kd.int .i64) (Kd.int .i64))))) (fun x : S32 => (x.f0, x.f1, x.f2, x.f3, x.f4))
theorem k32_open {w : World} {x : S32} {cs : List Value} (h : k32.K w x cs) : cs = [.int .i64 x.f0, .int .i64 x.f1, .int .i64 x.f2, .int .i64 x.f3, .int .i64 x.f4] := by
 obtain ⟨_, _, rfl, rfl, ⟨_, _, rfl, rfl, ⟨_, _, rfl, rfl, ⟨_, _, rfl, rfl, rfl⟩⟩⟩⟩ := h
 exact rfl
theorem k32_mkM (w : World) (base : Nat) (ok : Nat → Prop) (x : S32)  : k32.M w base ok x [.int .i64 x.f0, .int .i64 x.f1, .int .i64 x.f2, .int .i64 x.f3, .int .i64 x.f4] := ⟨[.int .i64 x.f0], [.int .i64 x.f1, .int .i64 x.f2, .int .i64 x.f3, .int .i64 x.f4], rfl, rfl, ⟨[.int .i64 x.f1], [.int .i64 x.f2, .int .i64 x.f3, .int .i64 x.f4], rfl, rfl, ⟨[.int .i64 x.f2], [.int .i64 x.f3, .int .i64 x.f4], rfl, rfl, ⟨[.int .i64 x.f3], [.int .i64 x.f4], rfl, rfl, rfl⟩⟩⟩⟩
def rd_T32 (xs : List S32) (i : Int) : S32 := xs.getD i.toNat z32
theorem at_T32 {w : World} {A : Option Addr} {n : Nat} {xs : List S32} (h : Kd.C k32 w A n xs) (i : Int) (h0 : 0 ≤ i) (h1 : i < n) : ∃ ad , A = some ad ∧ w.cell? (ad.add (i.toNat * 5)) = some (.int .i64 (rd_T32 xs i).f0) ∧ w.cell? ⟨(ad.add (i.toNat * 5)).block, (ad.add (i.toNat * 5)).off + 1, none⟩ = some (.int .i64 (rd_T32 xs i).f1) ∧ w.cell? ⟨(ad.add (i.toNat * 5)).block, (ad.add (i.toNat * 5)).off + 2, none⟩ = some (.int .i64 (rd_T32 xs i).f2) ∧ w.cell? ⟨(ad.add (i.toNat * 5)).block, (ad.add (i.toNat * 5)).off + 3, none⟩ = some (.int .i64 (rd_T32 xs i).f3) ∧ w.cell? ⟨(ad.add (i.toNat * 5)).block, (ad.add (i.toNat * 5)).off + 4, none⟩ = some (.int .i64 (rd_T32 xs i).f4) := by
 obtain ⟨ad, c, e, _, hK, hc0⟩ := Kd.C_get h z32 i h0 h1
 have hc : ∀ j u, c[j]? = some u → w.cell? (ad.add (i.toNat * 5 + j)) = some u := hc0
 obtain rfl := k32_open hK
 exact ⟨ad, e, hc 0 _ rfl, by rw [← add_field _ _ 1 (by omega)]; exact hc 1 _ rfl, by rw [← add_field _ _ 2 (by omega)]; exact hc 2 _ rfl, by rw [← add_field _ _ 3 (by omega)]; exact hc 3 _ rfl, by rw [← add_field _ _ 4 (by omega)]; exact hc 4 _ rfl⟩
structure S36 where
 f0 : Int
 f1 : Int
 f2 : Int
structure S89 where
 f0 : Int
 f1 : Int
def z89 : S89 := ⟨(0 : Int), (0 : Int)⟩
def k89 : Kd S89 := Kd.iso (Kd.pair (Kd.int .i64) (Kd.int .i64)) (fun x : S89 => (x.f0, x.f1))
theorem k89_open {w : World} {x : S89} {cs : List Value} (h : k89.K w x cs) : cs = [.int .i64 x.f0, .int .i64 x.f1] := by
 obtain ⟨_, _, rfl, rfl, rfl⟩ := h
 exact rfl
theorem k89_mkM (w : World) (base : Nat) (ok : Nat → Prop) (x : S89)  : k89.M w base ok x [.int .i64 x.f0, .int .i64 x.f1] := ⟨[.int .i64 x.f0], [.int .i64 x.f1], rfl, rfl, rfl⟩
def rd_T89 (xs : List S89) (i : Int) : S89 := xs.getD i.toNat z89
theorem at_T89 {w : World} {A : Option Addr} {n : Nat} {xs : List S89} (h : Kd.C k89 w A n xs) (i : Int) (h0 : 0 ≤ i) (h1 : i < n) : ∃ ad , A = some ad ∧ w.cell? (ad.add (i.toNat * 2)) = some (.int .i64 (rd_T89 xs i).f0) ∧ w.cell? ⟨(ad.add (i.toNat * 2)).block, (ad.add (i.toNat * 2)).off + 1, none⟩ = some (.int .i64 (rd_T89 xs i).f1) := by
 obtain ⟨ad, c, e, _, hK, hc0⟩ := Kd.C_get h z89 i h0 h1
 have hc : ∀ j u, c[j]? = some u → w.cell? (ad.add (i.toNat * 2 + j)) = some u := hc0
 obtain rfl := k89_open hK
 exact ⟨ad, e, hc 0 _ rfl, by rw [← add_field _ _ 1 (by omega)]; exact hc 1 _ rfl⟩
end Go.Proofs.YtiioklboaookiaaDoor.Q
namespace Go.Proofs.YtiioklboaookiaaDoor.Q
open Go.RowKit Go.Proofs.YtiioklboaookiaaDoorW.PrintWords Go.Proofs.YtiioklboaookiaaDoorW.PrintLast Go.Proofs.YtiioklboaookiaaDoor.Hand Go.Proofs.YtiioklboaookiaaDoorW.PrintMore
attribute [local go_sem] max2_int min2_int max_two min_two max_three min_three max_four min_four
set_option linter.unusedVariables false
set_option linter.unusedSimpArgs false
def silversidetop_mod.f (a0 : Int) (a1 : Int) : Option (Int) := if (IntKind.u64.wrap (a1)) = 0 then (none) else (some (wrap64 (Int.tmod (IntKind.u64.wrap (a0)) (IntKind.u64.wrap (a1)))))
set_option maxHeartbeats 8000000 in
set_option maxRecDepth 100000 in
theorem silversidetop_mod.calls (a0 : Int) (a1 : Int) (r : Int) (w : World) (h : silversidetop_mod.f a0 a1 = some r) :
  Calls Tryd.prog 6 #[.int .i64 a0, .int .i64 a1] w fun e w' => e = .returned (.int .i64 r) ∧ Drawn0 w w' := by
 have H : (if (IntKind.u64.wrap (a1)) = 0 then (none) else (some (wrap64 (Int.tmod (IntKind.u64.wrap (a0)) (IntKind.u64.wrap (a1)))))) = some r := h
 clear h
 by_cases c3 : (IntKind.u64.wrap (a1)) = 0
 ·rw [if_pos c3] at H
  exact absurd H (by simp)
 ·rw [if_neg c3] at H
  have c3b0 : ((IntKind.u64.wrap (a1)) == 0) = false := beq_eq_false_iff_ne.mpr c3
  have c3b1 : ((IntKind.u64.wrap (a1)) != 0) = true := bne_iff_ne.mpr c3
  obtain rfl := Option.some.inj H
  go_enter Tryd.func6, Tryd.ntmps6
  go_wp2
  go_ret
  exact ⟨by first | rfl | (simp; done) | (simp [*]; done), by repeat (first | exact Drawn0.refl _ | apply Drawn0.step)⟩
end Go.Proofs.YtiioklboaookiaaDoor.Q
namespace Go.Proofs.YtiioklboaookiaaDoor.Q
open Go.RowKit Go.Proofs.YtiioklboaookiaaDoorW.PrintWords Go.Proofs.YtiioklboaookiaaDoorW.PrintLast Go.Proofs.YtiioklboaookiaaDoor.Hand Go.Proofs.YtiioklboaookiaaDoorW.PrintMore
attribute [local go_sem] max2_int min2_int max_two min_two max_three min_three max_four min_four
set_option linter.unusedVariables false
set_option linter.unusedSimpArgs false
mutual
def silversidetop_task.l0 : Nat → Int → Int → Int → Int → Int → List (S34) → Int → Int → List (S34) → Option (Int × Int × (List (S34)))
 | 0, _, _, _, _, _, _, _, _, _ => none
 | k + 1, x1, x2, x8, x102000, x102001, x102002, x106000, x106001, x106002 => if x8 < (x102002.length : Int) then (silversidetop_task.j1 k x1 x2 x8 (decide (x8 < x2)) x102000 x102001 x102002 x106000 x106001 x106002) else (silversidetop_task.j1 k x1 x2 x8 false x102000 x102001 x102002 x106000 x106001 x106002)
def silversidetop_task.j1 : Nat → Int → Int → Int → Bool → Int → Int → List (S34) → Int → Int → List (S34) → Option (Int × Int × (List (S34)))
 | 0, _, _, _, _, _, _, _, _, _, _ => none
 | k + 1, x1, x2, x8, x32, x102000, x102001, x102002, x106000, x106001, x106002 => if x32 = true then (if 0 ≤ x8 then (if x8 < (x102002.length : Int) then ((silversidetop_mod.f (wrap64 (((rd_T34 x102002 x8).f0) - 1)) x1).bind fun t108 => ((silversidetop_mod.f (wrap64 (((rd_T34 x102002 x8).f1) - 1)) x1).bind fun t109 => ((silversidetop_mod.f ((rd_T34 x102002 x8).f2) 200).bind fun t110 => (if x106002.length < 5864062014805 then (silversidetop_task.l0 k x1 x2 (wrap64 (x8 + 1)) x102000 x102001 x102002 x106000 x106001 (x106002 ++ [(⟨wrap64 (1 + t108), wrap64 (1 + t109), t110⟩ : S34)])) else (none))))) else (none)) else (none)) else (some (x106000, x106001, x106002))
end
def silversidetop_task.f (k : Nat) (a0_0 : Int) (a0_1 : Int) (l0_2 : List (S34)) (a1 : Int) (a2 : Int) : Option (Int × Int × (List (S34))) := (silversidetop_mod.f (wrap64 (a0_0 - 1)) a1).bind fun t103 => ((silversidetop_mod.f (wrap64 (a0_1 - 1)) a1).bind fun t104 => (silversidetop_task.l0 k a1 a2 0 a0_0 a0_1 l0_2 (wrap64 (1 + t103)) (wrap64 (1 + t104)) ([] : List (S34))))
theorem silversidetop_task.mono_l : ∀ k, (∀ y0 y1 y2 y3 y4 y5 y6 y7 y8, LeO (silversidetop_task.l0 k y0 y1 y2 y3 y4 y5 y6 y7 y8) (silversidetop_task.l0 (k + 1) y0 y1 y2 y3 y4 y5 y6 y7 y8)) ∧ (∀ y0 y1 y2 y3 y4 y5 y6 y7 y8 y9, LeO (silversidetop_task.j1 k y0 y1 y2 y3 y4 y5 y6 y7 y8 y9) (silversidetop_task.j1 (k + 1) y0 y1 y2 y3 y4 y5 y6 y7 y8 y9))
 | 0 => ⟨fun _ _ _ _ _ _ _ _ _ r h => by simp [silversidetop_task.l0] at h, fun _ _ _ _ _ _ _ _ _ _ r h => by simp [silversidetop_task.j1] at h⟩
 | k + 1 => by
  obtain ⟨ih0, ih1⟩ := silversidetop_task.mono_l k
  refine ⟨?_, ?_⟩
  ·intro y0 y1 y2 y3 y4 y5 y6 y7 y8
   unfold silversidetop_task.l0
   repeat' first
   | (with_reducible exact ih0 _ _ _ _ _ _ _ _ _)
   | (with_reducible exact ih1 _ _ _ _ _ _ _ _ _ _)
   | (with_reducible exact LeO.refl _)
   | (with_reducible exact LeO.none _)
   | (with_reducible refine LeO.ite ?_ ?_)
   | (with_reducible refine LeO.bind ?_ (fun _ => ?_))
   | exact ih0 _ _ _ _ _ _ _ _ _
   | exact ih1 _ _ _ _ _ _ _ _ _ _
   | exact LeO.none _
   | refine LeO.ite ?_ ?_
   | refine LeO.bind ?_ (fun _ => ?_)
  ·intro y0 y1 y2 y3 y4 y5 y6 y7 y8 y9
   unfold silversidetop_task.j1
   repeat' first
   | (with_reducible exact ih0 _ _ _ _ _ _ _ _ _)
   | (with_reducible exact ih1 _ _ _ _ _ _ _ _ _ _)
   | (with_reducible exact LeO.refl _)
   | (with_reducible exact LeO.none _)
   | (with_reducible refine LeO.ite ?_ ?_)
   | (with_reducible refine LeO.bind ?_ (fun _ => ?_))
   | exact ih0 _ _ _ _ _ _ _ _ _
   | exact ih1 _ _ _ _ _ _ _ _ _ _
   | exact LeO.none _
   | refine LeO.ite ?_ ?_
   | refine LeO.bind ?_ (fun _ => ?_)
theorem silversidetop_task.mono : ∀ a0 a1 a2 a3 a4 k, LeO (silversidetop_task.f k a0 a1 a2 a3 a4) (silversidetop_task.f (k + 1) a0 a1 a2 a3 a4) := by
 intro a0 a1 a2 a3 a4 k
 obtain ⟨ih0, ih1⟩ := silversidetop_task.mono_l k
 unfold silversidetop_task.f
 repeat' first
   | (with_reducible exact ih0 _ _ _ _ _ _ _ _ _)
   | (with_reducible exact ih1 _ _ _ _ _ _ _ _ _ _)
   | (with_reducible exact LeO.refl _)
   | (with_reducible exact LeO.none _)
   | (with_reducible refine LeO.ite ?_ ?_)
   | (with_reducible refine LeO.bind ?_ (fun _ => ?_))
   | exact ih0 _ _ _ _ _ _ _ _ _
   | exact ih1 _ _ _ _ _ _ _ _ _ _
   | exact LeO.none _
   | refine LeO.ite ?_ ?_
   | refine LeO.bind ?_ (fun _ => ?_)
def silversidetop_task.T1 : Bool × List (List Nat × List Nat) := (true, [([], []), ([0], [0]), ([1], [1]), ([], []), ([2, 3], [2, 3]), ([4], [4]), ([], []), ([6], [6]), ([7], [7]), ([], []), ([8, 9, 4], [8, 9]), ([10], [10]), ([5, 11], [5, 11]), ([], []), ([13, 12, 10, 0, 1, 2, 3, 4, 5, 6, 7, 8, 9, 10, 11, 12, 13], [12, 13])])
def silversidetop_task.B1 : List Nat := [0, 1, 3, 0, 15, 31, 0, 64, 192, 0, 991, 2015, 4095, 0, 16383]
theorem silversidetop_task.tab1 : rtab .any (opsOf Tryd.f4 1) = silversidetop_task.T1 := by kernel_rfl
theorem silversidetop_task.bits1 : waitsOk silversidetop_task.T1.2 silversidetop_task.B1 = true := by kernel_rfl
def silversidetop_task.T6 : Bool × List (List Nat × List Nat) := (true, [([], []), ([0], [0]), ([], []), ([2], [2]), ([3], [3]), ([], []), ([4, 5], [4, 5]), ([6], [6]), ([], []), ([8], [8]), ([9], [9]), ([], []), ([10, 11, 6], [10, 11]), ([12], [12]), ([], []), ([14], [14]), ([15, 12], [15]), ([7, 13, 16], [7, 13, 16]), ([17], [17]), ([1, 18, 16], [1, 18]), ([0, 1, 2, 3, 4, 5, 6, 7, 8, 9, 10, 11, 12, 13, 14, 15, 16, 17, 18, 19], []), ([20, 19, 19, 0, 1, 2, 3, 4, 5, 6, 7, 8, 9, 10, 11, 12, 13, 14, 15, 16, 17, 18, 19], [19, 20])])
def silversidetop_task.B6 : List Nat := [0, 1, 0, 4, 12, 0, 60, 124, 0, 256, 768, 0, 3964, 8060, 0, 16384, 57212, 131068, 262140, 524287, 1048575, 2097151]
theorem silversidetop_task.tab6 : rtab .any (opsOf Tryd.f4 6) = silversidetop_task.T6 := by kernel_rfl
theorem silversidetop_task.bits6 : waitsOk silversidetop_task.T6.2 silversidetop_task.B6 = true := by kernel_rfl
set_option maxHeartbeats 8000000 in
set_option maxRecDepth 100000 in
theorem silversidetop_task.calls (k : Nat) (a0_0 : Int) (a0_1 : Int) (A0_2 : Option Addr) (c0_2 : Nat) (l0_2 : List (S34)) (a1 : Int) (a2 : Int) (r1 : Int) (r2 : Int) (r3 : List (S34)) (w : World) (hr0_2 : Kd.C k34 w A0_2 l0_2.length l0_2) (hc0_2 : l0_2.length ≤ c0_2) (h : silversidetop_task.f k a0_0 a0_1 l0_2 a1 a2 = some (r1, r2, r3)) :
  Calls Tryd.prog 4 #[.agg #[.int .i64 a0_0, .int .i64 a0_1, .slice A0_2 l0_2.length c0_2], .int .i64 a1, .int .i64 a2] w fun e w' => ∃ v2_ : Value, e = .returned (.agg #[.int .i64 r1, .int .i64 r2, v2_]) ∧ Kd.R k34 34 w' w.heap.size (fun _ => True) v2_ r3 ∧ Below w.heap.size w w' := by
 have hu24 := Tryd.underlying24
 have hu34 := Tryd.underlying34
 have HR0_2 := Aside0.mk hr0_2
 have HC0_2 := Aside0.mk hc0_2
 clear hr0_2 hc0_2
 have HB := Aside0.mk (Below.refl w.heap.size w)
 have H : ((silversidetop_mod.f (wrap64 (a0_0 - 1)) a1).bind fun t103 => ((silversidetop_mod.f (wrap64 (a0_1 - 1)) a1).bind fun t104 => (silversidetop_task.l0 k a1 a2 0 a0_0 a0_1 l0_2 (wrap64 (1 + t103)) (wrap64 (1 + t104)) ([] : List (S34))))) = some (r1, r2, r3) := h
 clear h
 replace H := Option.bind_eq_some_iff.mp H
 obtain ⟨t103, A40, H⟩ := H
 replace H : ((silversidetop_mod.f (wrap64 (a0_1 - 1)) a1).bind fun t104 => (silversidetop_task.l0 k a1 a2 0 a0_0 a0_1 l0_2 (wrap64 (1 + t103)) (wrap64 (1 + t104)) ([] : List (S34)))) = some (r1, r2, r3) := H
 have A4 := Aside0.mk A40; (try simp only [Int.toNat_natCast] at A4)
 clear A40
 replace H := Option.bind_eq_some_iff.mp H
 obtain ⟨t104, A50, H⟩ := H
 replace H : (silversidetop_task.l0 k a1 a2 0 a0_0 a0_1 l0_2 (wrap64 (1 + t103)) (wrap64 (1 + t104)) ([] : List (S34))) = some (r1, r2, r3) := H
 have A5 := Aside0.mk A50; (try simp only [Int.toNat_natCast] at A5)
 clear A50
 have H' := Aside0.mk H
 clear H
 go_enter Tryd.func4, Tryd.ntmps4
 try go_wp2_with (first | ((with_reducible refine gate_dst (N := 3) rfl ?_); refine box_event ?hg (N := 3) ?hd (cs := #[.int .i64 a0_0, .int .i64 a0_1, .slice A0_2 l0_2.length c0_2]) (t := 24) ?hr ?_; (case hd => rfl); (case hg => rfl); (case hr => first | (go_simp; done) | (go_simp; rfl)); intro gb101 hg w6 hbox hb; have n0_ := Aside0.mk (below_step (by repeat (first | (with_reducible first | exact HB.out | apply below_alloc | apply pw_below_drewN | apply below_drew1) | exact HB.out)) hb); have n1_ := Aside0.mk (hbox); have n2_ := Aside0.mk ((by rw [hg]; exact (below_size (by repeat (first | (with_reducible first | exact HB.out | apply below_alloc | apply pw_below_drewN | apply below_drew1) | exact HB.out))) : w.heap.size ≤ gb101)); have n3_ := Aside0.mk ((by rw [hg]; exact (below_size (by repeat (first | (with_reducible first | exact HB.out | apply below_alloc | apply pw_below_drewN | apply below_drew1) | exact HB.out))) : w.heap.size ≤ gb101)); clear HB; have HB := n0_; have BK101 := n1_; have GW101 := n2_; have GE101 := n3_; clear n0_ n1_ n2_ n3_; clear hb hbox hg) | ((with_reducible refine gate_dst (N := 6) rfl ?_); refine box_event ?hg (N := 6) ?hd (cs := #[.int .i64 0, .int .i64 0, .slice none 0 0]) (t := 24) ?hr ?_; (case hd => rfl); (case hg => rfl); (case hr => first | (go_simp; done) | (go_simp; rfl)); intro gb102 hg w7 hbox hb; have n0_ := Aside0.mk (blk_below (g := gb101) (o := .cells #[.int .i64 a0_0, .int .i64 a0_1, .slice A0_2 l0_2.length c0_2] 24 (0, 0)) (by (with_reducible repeat (first | refine blk_drewN ?_ _ | refine blk_drew ?_ | refine blk_alloc ?_ _)); exact BK101.out) hb); have n1_ := Aside0.mk (below_step (by repeat (first | (with_reducible first | exact HB.out | apply below_alloc | apply pw_below_drewN | apply below_drew1 | refine below_set ?_ GE101.out) | exact HB.out)) hb); have n2_ := Aside0.mk (hbox); have n3_ := Aside0.mk ((by rw [hg]; exact (below_size (by repeat (first | (with_reducible first | exact HB.out | apply below_alloc | apply pw_below_drewN | apply below_drew1 | refine below_set ?_ GE101.out) | exact HB.out))) : w.heap.size ≤ gb102)); have n4_ := Aside0.mk ((by rw [hg]; exact (below_size (by repeat (first | (with_reducible first | exact HB.out | apply below_alloc | apply pw_below_drewN | apply below_drew1 | refine below_set ?_ GE101.out) | exact HB.out))) : w.heap.size ≤ gb102)); have n5_ := Aside0.mk ((by rw [hg]; exact Nat.ne_of_lt (blk_lt (g := gb101) (o := .cells #[.int .i64 a0_0, .int .i64 a0_1, .slice A0_2 l0_2.length c0_2] 24 (0, 0)) (by (with_reducible repeat (first | refine blk_drewN ?_ _ | refine blk_drew ?_ | refine blk_alloc ?_ _)); exact BK101.out)) : gb101 ≠ gb102)); have n6_ := Aside0.mk ((by rw [hg]; exact Nat.ne_of_gt (blk_lt (g := gb101) (o := .cells #[.int .i64 a0_0, .int .i64 a0_1, .slice A0_2 l0_2.length c0_2] 24 (0, 0)) (by (with_reducible repeat (first | refine blk_drewN ?_ _ | refine blk_drew ?_ | refine blk_alloc ?_ _)); exact BK101.out)) : gb102 ≠ gb101)); clear BK101; clear HB; have BK101 := n0_; have HB := n1_; have BK102 := n2_; have GW102 := n3_; have GE102 := n4_; have NB101_102 := n5_; have NB102_101 := n6_; clear n0_ n1_ n2_ n3_ n4_ n5_ n6_; clear hb hbox hg))
 have n0_ := Aside0.mk (blk_drew BK101.out)
 have n1_ := Aside0.mk (blk_drew BK102.out)
 have n2_ := Aside0.mk (below_drew1 HB.out)
 clear BK101
 clear BK102
 clear HB
 have BK101 := n0_
 have BK102 := n1_
 have HB := n2_
 clear n0_ n1_ n2_
 refine start_ (n := 15) (S := fun w' => w'.cell? ⟨gb101, 0, none⟩ = some (.int .i64 a0_0) ∧ w'.cell? ⟨gb101, 1, none⟩ = some (.int .i64 a0_1) ∧ w'.cell? ⟨gb101, 2, none⟩ = some (.slice A0_2 l0_2.length c0_2)) (ds := []) #[false, false, false, false, false, false, false, false, false, false, false, false, false, false, false] (by kernel_rfl) rfl rfl ⟨(blk_cell BK101.out 0).trans rfl, (blk_cell BK101.out 1).trans rfl, (blk_cell BK101.out 2).trans rfl⟩ (fun hHeld => ?_); refine with_tabW silversidetop_task.tab1 silversidetop_task.bits1 (fun HT_ HW_ => ?_)
 generalize w7.drew = w8 at BK101 BK102 HB hHeld ⊢
 refine pure_ (i := 0) (N := some 10) (v := ?_) (a' := ?_) #[true, false, false, false, false, false, false, false, false, false, false, false, false, false, false] rfl rfl (any_of HT_.out (by kernel_rfl)) (fun _ _ _ h => h) (Or.inl ⟨by rfl, ?_⟩) ?_ ?_
 rotate_left
 ·intro w'
  go_simp
  with_reducible rfl
 rotate_left
 ·simp only [Act.put, List.setIfInBounds_toArray, List.set_cons_zero, List.set_cons_succ, i64_w, i32_w]
  rfl
 refine pure_ (i := 3) (N := some 13) (v := ?_) (a' := ?_) #[true, false, false, true, false, false, false, false, false, false, false, false, false, false, false] rfl rfl (any_of HT_.out (by kernel_rfl)) (fun _ _ _ h => h) (Or.inl ⟨by rfl, ?_⟩) ?_ ?_
 rotate_left
 ·intro w'
  go_simp
  with_reducible rfl
 rotate_left
 ·simp only [Act.put, List.setIfInBounds_toArray, List.set_cons_zero, List.set_cons_succ, i64_w, i32_w]
  rfl
 refine pure_ (i := 6) (N := some 16) (v := ?_) (a' := ?_) #[true, false, false, true, false, false, true, false, false, false, false, false, false, false, false] rfl rfl (any_of HT_.out (by kernel_rfl)) (fun _ _ _ h => h) (Or.inl ⟨by rfl, ?_⟩) ?_ ?_
 rotate_left
 ·intro w'
  go_simp
  with_reducible rfl
 rotate_left
 ·simp only [Act.put, List.setIfInBounds_toArray, List.set_cons_zero, List.set_cons_succ, i64_w, i32_w]
  rfl
 refine pure_ (i := 9) (N := some 19) (v := ?_) (a' := ?_) #[true, false, false, true, false, false, true, false, false, true, false, false, false, false, false] rfl rfl (any_of HT_.out (by kernel_rfl)) (fun _ _ _ h => h) (Or.inl ⟨by rfl, ?_⟩) ?_ ?_
 rotate_left
 ·intro w'
  go_simp
  with_reducible rfl
 rotate_left
 ·simp only [Act.put, List.setIfInBounds_toArray, List.set_cons_zero, List.set_cons_succ, i64_w, i32_w]
  rfl
 refine take_ (i := 1) (N := some 11) (v := ?_) (a' := ?_) #[true, true, false, true, false, false, true, false, false, true, false, false, false, false, false] rfl rfl (take_ofW HT_.out HW_.out (by kernel_rfl)) (fun _ _ _ h => h) (Or.inl ⟨by rfl, ?_⟩) hHeld ?_ ?_
 rotate_left
 ·rintro w' ⟨s0, s1, s2⟩
  go_simp
  with_reducible rfl
 rotate_left
 ·simp only [Act.put, List.setIfInBounds_toArray, List.set_cons_zero, List.set_cons_succ, i64_w, i32_w]
  rfl
 refine pure_ (i := 2) (N := some 12) (v := ?_) (a' := ?_) #[true, true, true, true, false, false, true, false, false, true, false, false, false, false, false] rfl rfl (any_of HT_.out (by kernel_rfl)) (fun _ _ _ h => h) (Or.inl ⟨by rfl, ?_⟩) ?_ ?_
 rotate_left
 ·intro w'
  go_simp
  with_reducible rfl
 rotate_left
 ·simp only [Act.put, List.setIfInBounds_toArray, List.set_cons_zero, List.set_cons_succ, i64_w, i32_w]
  rfl
 refine take_ (i := 7) (N := some 17) (v := ?_) (a' := ?_) #[true, true, true, true, false, false, true, true, false, true, false, false, false, false, false] rfl rfl (take_ofW HT_.out HW_.out (by kernel_rfl)) (fun _ _ _ h => h) (Or.inl ⟨by rfl, ?_⟩) hHeld ?_ ?_
 rotate_left
 ·rintro w' ⟨s0, s1, s2⟩
  go_simp
  with_reducible rfl
 rotate_left
 ·simp only [Act.put, List.setIfInBounds_toArray, List.set_cons_zero, List.set_cons_succ, i64_w, i32_w]
  rfl
 refine pure_ (i := 8) (N := some 18) (v := ?_) (a' := ?_) #[true, true, true, true, false, false, true, true, true, true, false, false, false, false, false] rfl rfl (any_of HT_.out (by kernel_rfl)) (fun _ _ _ h => h) (Or.inl ⟨by rfl, ?_⟩) ?_ ?_
 rotate_left
 ·intro w'
  go_simp
  with_reducible rfl
 rotate_left
 ·simp only [Act.put, List.setIfInBounds_toArray, List.set_cons_zero, List.set_cons_succ, i64_w, i32_w]
  rfl
 refine join_ (σ := Nat) 1 #[true, true, true, true, true, true, true, true, true, true, true, true, true, true, false] (fun s_ => [(14, .int .i64 t103), (20, .int .i64 t104), (7, .pointer (some ⟨s_, 0, none⟩)), (15, .int .i64 (wrap64 (1 + t103))), (21, .int .i64 (wrap64 (1 + t104))), (22, .agg #[.int .i64 (wrap64 (1 + t103)), .int .i64 (wrap64 (1 + t104)), .slice none 0 0])]) (fun s_ w' => (w'.cell? ⟨gb101, 0, none⟩ = some (.int .i64 a0_0) ∧ w'.cell? ⟨gb101, 1, none⟩ = some (.int .i64 a0_1) ∧ w'.cell? ⟨gb101, 2, none⟩ = some (.slice A0_2 l0_2.length c0_2)) ∧ (w'.heap[gb101]? = some (.cells #[.int .i64 a0_0, .int .i64 a0_1, .slice A0_2 l0_2.length c0_2] 24 (0, 0))) ∧ (w'.heap[gb102]? = some (.cells #[.int .i64 0, .int .i64 0, .slice none 0 0] 24 (0, 0))) ∧ (w'.heap[s_]? = some (.cells #[.int .i64 0, .int .i64 0, .slice none 0 0] 24 (0, 0))) ∧ (w.heap.size ≤ s_) ∧ (w.heap.size ≤ s_) ∧ (gb101 ≠ s_) ∧ (s_ ≠ gb101) ∧ (gb102 ≠ s_) ∧ (s_ ≠ gb102) ∧ (Below w.heap.size w w')) ?_ ?_
 rotate_left
 ·intro hCont
  refine two_ (i := 4) (j := 13) (Ni := some 14) (Nj := some 7) #[true, true, true, true, true, false, true, true, true, true, false, false, false, false, false] #[true, true, true, true, false, false, true, true, true, true, false, false, false, true, false] rfl rfl rfl rfl (two_of HT_.out (by kernel_rfl)) (by decide) (by decide) (fun K hK => ?_) (fun K hK => ?_)
  ·skip
   refine goes_ Tryd.func6 (by kernel_rfl) rfl #[.int .i64 (wrap64 (a0_0 - 1)), .int .i64 a1] (by rfl) rfl rfl (by (try simp only [List.map_toArray, List.map_cons, List.map_nil]); first | done | rfl | (simp only [List.length_drop, List.length_take]; rfl)) ?_
   with_reducible refine (silversidetop_mod.calls (wrap64 (a0_0 - 1)) a1 t103 _ A4.out).mono ?_
   rintro e w' ⟨rfl, ⟨nd, rfl⟩⟩
   refine ⟨_, rfl, ?_⟩
   refine hK.out _ _ ⟨(blk_cell BK101.out 0).trans rfl, (blk_cell BK101.out 1).trans rfl, (blk_cell BK101.out 2).trans rfl⟩ (fun hHeld => ?_)
   clear hK K
   refine norm_ (a' := ?_) ?_ ?_
   rotate_left
   ·show Act.put _ (some 14) _ = _
    simp only [Act.put, List.setIfInBounds_toArray, List.set_cons_zero, List.set_cons_succ, i64_w, i32_w]
    rfl
   refine pure_ (i := 5) (N := some 15) (v := ?_) (a' := ?_) #[true, true, true, true, true, true, true, true, true, true, false, false, false, false, false] rfl rfl (any_of HT_.out (by kernel_rfl)) (fun _ _ _ h => h) (Or.inl ⟨by rfl, ?_⟩) ?_ ?_
   rotate_left
   ·intro w'
    go_simp
    with_reducible rfl
   rotate_left
   ·simp only [Act.put, List.setIfInBounds_toArray, List.set_cons_zero, List.set_cons_succ, i64_w, i32_w]
    rfl
   refine two_ (i := 10) (j := 13) (Ni := some 20) (Nj := some 7) #[true, true, true, true, true, true, true, true, true, true, true, false, false, false, false] #[true, true, true, true, true, true, true, true, true, true, false, false, false, true, false] rfl rfl rfl rfl (two_of HT_.out (by kernel_rfl)) (by decide) (by decide) (fun K hK => ?_) (fun K hK => ?_)
   ·skip
    refine goes_ Tryd.func6 (by kernel_rfl) rfl #[.int .i64 (wrap64 (a0_1 - 1)), .int .i64 a1] (by rfl) rfl rfl (by (try simp only [List.map_toArray, List.map_cons, List.map_nil]); first | done | rfl | (simp only [List.length_drop, List.length_take]; rfl)) ?_
    with_reducible refine (silversidetop_mod.calls (wrap64 (a0_1 - 1)) a1 t104 _ A5.out).mono ?_
    rintro e w' ⟨rfl, ⟨nd, rfl⟩⟩
    refine ⟨_, rfl, ?_⟩
    refine hK.out _ _ ⟨(blk_cell BK101.out 0).trans rfl, (blk_cell BK101.out 1).trans rfl, (blk_cell BK101.out 2).trans rfl⟩ (fun hHeld => ?_)
    clear hK K
    refine norm_ (a' := ?_) ?_ ?_
    rotate_left
    ·show Act.put _ (some 20) _ = _
     simp only [Act.put, List.setIfInBounds_toArray, List.set_cons_zero, List.set_cons_succ, i64_w, i32_w]
     rfl
    refine pure_ (i := 11) (N := some 21) (v := ?_) (a' := ?_) #[true, true, true, true, true, true, true, true, true, true, true, true, false, false, false] rfl rfl (any_of HT_.out (by kernel_rfl)) (fun _ _ _ h => h) (Or.inl ⟨by rfl, ?_⟩) ?_ ?_
    rotate_left
    ·intro w'
     go_simp
     with_reducible rfl
    rotate_left
    ·simp only [Act.put, List.setIfInBounds_toArray, List.set_cons_zero, List.set_cons_succ, i64_w, i32_w]
     rfl
    refine pure_ (i := 12) (N := some 22) (v := ?_) (a' := ?_) #[true, true, true, true, true, true, true, true, true, true, true, true, true, false, false] rfl rfl (any_of HT_.out (by kernel_rfl)) (fun _ _ _ h => h) (Or.inl ⟨by rfl, ?_⟩) ?_ ?_
    rotate_left
    ·intro w'
     go_simp
     with_reducible rfl
    rotate_left
    ·simp only [Act.put, List.setIfInBounds_toArray, List.set_cons_zero, List.set_cons_succ, i64_w, i32_w]
     rfl
    refine one_ (i := 13) (N := some 7) #[true, true, true, true, true, true, true, true, true, true, true, true, true, true, false] rfl rfl (one_of HT_.out (by kernel_rfl)) (by decide) (fun K hK => ?_)
    refine box_step ?hg (N := 7) ?hd (cs := #[.int .i64 0, .int .i64 0, .slice none 0 0]) (t := 24) ?hr ?_; (case hd => rfl); (case hg => rfl); (case hr => first | (go_simp; done) | (go_simp; rfl))
    intro gb105 hg w9 hbox hb
    have n0_ := Aside0.mk (blk_below (g := gb101) (o := .cells #[.int .i64 a0_0, .int .i64 a0_1, .slice A0_2 l0_2.length c0_2] 24 (0, 0)) (by (with_reducible repeat (first | refine blk_drewN ?_ _ | refine blk_drew ?_ | refine blk_alloc ?_ _)); exact BK101.out) hb)
    have n1_ := Aside0.mk (blk_below (g := gb102) (o := .cells #[.int .i64 0, .int .i64 0, .slice none 0 0] 24 (0, 0)) (by (with_reducible repeat (first | refine blk_drewN ?_ _ | refine blk_drew ?_ | refine blk_alloc ?_ _)); exact BK102.out) hb)
    have n2_ := Aside0.mk (below_step (by repeat (first | (with_reducible first | exact HB.out | apply below_alloc | apply pw_below_drewN | apply below_drew1 | refine below_set ?_ GE101.out | refine below_set ?_ GE102.out) | exact HB.out)) hb)
    have n3_ := Aside0.mk (hbox)
    have n4_ := Aside0.mk ((by rw [hg]; exact (below_size (by repeat (first | (with_reducible first | exact HB.out | apply below_alloc | apply pw_below_drewN | apply below_drew1 | refine below_set ?_ GE101.out | refine below_set ?_ GE102.out) | exact HB.out))) : w.heap.size ≤ gb105))
    have n5_ := Aside0.mk ((by rw [hg]; exact (below_size (by repeat (first | (with_reducible first | exact HB.out | apply below_alloc | apply pw_below_drewN | apply below_drew1 | refine below_set ?_ GE101.out | refine below_set ?_ GE102.out) | exact HB.out))) : w.heap.size ≤ gb105))
    have n6_ := Aside0.mk ((by rw [hg]; exact Nat.ne_of_lt (blk_lt (g := gb101) (o := .cells #[.int .i64 a0_0, .int .i64 a0_1, .slice A0_2 l0_2.length c0_2] 24 (0, 0)) (by (with_reducible repeat (first | refine blk_drewN ?_ _ | refine blk_drew ?_ | refine blk_alloc ?_ _)); exact BK101.out)) : gb101 ≠ gb105))
    have n7_ := Aside0.mk ((by rw [hg]; exact Nat.ne_of_gt (blk_lt (g := gb101) (o := .cells #[.int .i64 a0_0, .int .i64 a0_1, .slice A0_2 l0_2.length c0_2] 24 (0, 0)) (by (with_reducible repeat (first | refine blk_drewN ?_ _ | refine blk_drew ?_ | refine blk_alloc ?_ _)); exact BK101.out)) : gb105 ≠ gb101))
    have n8_ := Aside0.mk ((by rw [hg]; exact Nat.ne_of_lt (blk_lt (g := gb102) (o := .cells #[.int .i64 0, .int .i64 0, .slice none 0 0] 24 (0, 0)) (by (with_reducible repeat (first | refine blk_drewN ?_ _ | refine blk_drew ?_ | refine blk_alloc ?_ _)); exact BK102.out)) : gb102 ≠ gb105))
    have n9_ := Aside0.mk ((by rw [hg]; exact Nat.ne_of_gt (blk_lt (g := gb102) (o := .cells #[.int .i64 0, .int .i64 0, .slice none 0 0] 24 (0, 0)) (by (with_reducible repeat (first | refine blk_drewN ?_ _ | refine blk_drew ?_ | refine blk_alloc ?_ _)); exact BK102.out)) : gb105 ≠ gb102))
    clear BK101
    clear BK102
    clear HB
    have BK101 := n0_
    have BK102 := n1_
    have HB := n2_
    have BK105 := n3_
    have GW105 := n4_
    have GE105 := n5_
    have NB101_105 := n6_
    have NB105_101 := n7_
    have NB102_105 := n8_
    have NB105_102 := n9_
    clear n0_ n1_ n2_ n3_ n4_ n5_ n6_ n7_ n8_ n9_
    clear hb hbox hg
    refine hK.out _ _ ⟨(blk_cell BK101.out 0).trans rfl, (blk_cell BK101.out 1).trans rfl, (blk_cell BK101.out 2).trans rfl⟩ (fun hHeld => ?_)
    clear hK K
    refine norm_ (a' := ?_) ?_ ?_
    rotate_left
    ·show Act.put _ (some 7) _ = _
     simp only [Act.put, List.setIfInBounds_toArray, List.set_cons_zero, List.set_cons_succ, i64_w, i32_w]
     rfl
    exact norm_ (by simp only [putAll, Act.put, List.setIfInBounds_toArray, List.set_cons_zero, List.set_cons_succ]) (hCont (gb105) _ ⟨hHeld, (by (with_reducible repeat (first | refine blk_drewN ?_ _ | refine blk_drew ?_ | refine blk_alloc ?_ _)); exact BK101.out), (by (with_reducible repeat (first | refine blk_drewN ?_ _ | refine blk_drew ?_ | refine blk_alloc ?_ _)); exact BK102.out), (by (with_reducible repeat (first | refine blk_drewN ?_ _ | refine blk_drew ?_ | refine blk_alloc ?_ _)); exact BK105.out), GW105.out, GE105.out, NB101_105.out, NB105_101.out, NB102_105.out, NB105_102.out, (by repeat (first | (with_reducible first | exact HB.out | apply below_alloc | apply pw_below_drewN | apply below_drew1 | refine below_set ?_ GE101.out | refine below_set ?_ GE102.out | refine below_set ?_ GE105.out) | exact HB.out))⟩)
   ·skip
    refine box_step ?hg (N := 7) ?hd (cs := #[.int .i64 0, .int .i64 0, .slice none 0 0]) (t := 24) ?hr ?_; (case hd => rfl); (case hg => rfl); (case hr => first | (go_simp; done) | (go_simp; rfl))
    intro gb105 hg w9 hbox hb
    have n0_ := Aside0.mk (blk_below (g := gb101) (o := .cells #[.int .i64 a0_0, .int .i64 a0_1, .slice A0_2 l0_2.length c0_2] 24 (0, 0)) (by (with_reducible repeat (first | refine blk_drewN ?_ _ | refine blk_drew ?_ | refine blk_alloc ?_ _)); exact BK101.out) hb)
    have n1_ := Aside0.mk (blk_below (g := gb102) (o := .cells #[.int .i64 0, .int .i64 0, .slice none 0 0] 24 (0, 0)) (by (with_reducible repeat (first | refine blk_drewN ?_ _ | refine blk_drew ?_ | refine blk_alloc ?_ _)); exact BK102.out) hb)
    have n2_ := Aside0.mk (below_step (by repeat (first | (with_reducible first | exact HB.out | apply below_alloc | apply pw_below_drewN | apply below_drew1 | refine below_set ?_ GE101.out | refine below_set ?_ GE102.out) | exact HB.out)) hb)
    have n3_ := Aside0.mk (hbox)
    have n4_ := Aside0.mk ((by rw [hg]; exact (below_size (by repeat (first | (with_reducible first | exact HB.out | apply below_alloc | apply pw_below_drewN | apply below_drew1 | refine below_set ?_ GE101.out | refine below_set ?_ GE102.out) | exact HB.out))) : w.heap.size ≤ gb105))
    have n5_ := Aside0.mk ((by rw [hg]; exact (below_size (by repeat (first | (with_reducible first | exact HB.out | apply below_alloc | apply pw_below_drewN | apply below_drew1 | refine below_set ?_ GE101.out | refine below_set ?_ GE102.out) | exact HB.out))) : w.heap.size ≤ gb105))
    have n6_ := Aside0.mk ((by rw [hg]; exact Nat.ne_of_lt (blk_lt (g := gb101) (o := .cells #[.int .i64 a0_0, .int .i64 a0_1, .slice A0_2 l0_2.length c0_2] 24 (0, 0)) (by (with_reducible repeat (first | refine blk_drewN ?_ _ | refine blk_drew ?_ | refine blk_alloc ?_ _)); exact BK101.out)) : gb101 ≠ gb105))
    have n7_ := Aside0.mk ((by rw [hg]; exact Nat.ne_of_gt (blk_lt (g := gb101) (o := .cells #[.int .i64 a0_0, .int .i64 a0_1, .slice A0_2 l0_2.length c0_2] 24 (0, 0)) (by (with_reducible repeat (first | refine blk_drewN ?_ _ | refine blk_drew ?_ | refine blk_alloc ?_ _)); exact BK101.out)) : gb105 ≠ gb101))
    have n8_ := Aside0.mk ((by rw [hg]; exact Nat.ne_of_lt (blk_lt (g := gb102) (o := .cells #[.int .i64 0, .int .i64 0, .slice none 0 0] 24 (0, 0)) (by (with_reducible repeat (first | refine blk_drewN ?_ _ | refine blk_drew ?_ | refine blk_alloc ?_ _)); exact BK102.out)) : gb102 ≠ gb105))
    have n9_ := Aside0.mk ((by rw [hg]; exact Nat.ne_of_gt (blk_lt (g := gb102) (o := .cells #[.int .i64 0, .int .i64 0, .slice none 0 0] 24 (0, 0)) (by (with_reducible repeat (first | refine blk_drewN ?_ _ | refine blk_drew ?_ | refine blk_alloc ?_ _)); exact BK102.out)) : gb105 ≠ gb102))
    clear BK101
    clear BK102
    clear HB
    have BK101 := n0_
    have BK102 := n1_
    have HB := n2_
    have BK105 := n3_
    have GW105 := n4_
    have GE105 := n5_
    have NB101_105 := n6_
    have NB105_101 := n7_
    have NB102_105 := n8_
    have NB105_102 := n9_
    clear n0_ n1_ n2_ n3_ n4_ n5_ n6_ n7_ n8_ n9_
    clear hb hbox hg
    refine hK.out _ _ ⟨(blk_cell BK101.out 0).trans rfl, (blk_cell BK101.out 1).trans rfl, (blk_cell BK101.out 2).trans rfl⟩ (fun hHeld => ?_)
    clear hK K
    refine norm_ (a' := ?_) ?_ ?_
    rotate_left
    ·show Act.put _ (some 7) _ = _
     simp only [Act.put, List.setIfInBounds_toArray, List.set_cons_zero, List.set_cons_succ, i64_w, i32_w]
     rfl
    refine one_ (i := 10) (N := some 20) #[true, true, true, true, true, true, true, true, true, true, true, false, false, true, false] rfl rfl (one_of HT_.out (by kernel_rfl)) (by decide) (fun K hK => ?_)
    refine goes_ Tryd.func6 (by kernel_rfl) rfl #[.int .i64 (wrap64 (a0_1 - 1)), .int .i64 a1] (by rfl) rfl rfl (by (try simp only [List.map_toArray, List.map_cons, List.map_nil]); first | done | rfl | (simp only [List.length_drop, List.length_take]; rfl)) ?_
    with_reducible refine (silversidetop_mod.calls (wrap64 (a0_1 - 1)) a1 t104 _ A5.out).mono ?_
    rintro e w' ⟨rfl, ⟨nd, rfl⟩⟩
    refine ⟨_, rfl, ?_⟩
    refine hK.out _ _ ⟨(blk_cell BK101.out 0).trans rfl, (blk_cell BK101.out 1).trans rfl, (blk_cell BK101.out 2).trans rfl⟩ (fun hHeld => ?_)
    clear hK K
    refine norm_ (a' := ?_) ?_ ?_
    rotate_left
    ·show Act.put _ (some 20) _ = _
     simp only [Act.put, List.setIfInBounds_toArray, List.set_cons_zero, List.set_cons_succ, i64_w, i32_w]
     rfl
    refine pure_ (i := 11) (N := some 21) (v := ?_) (a' := ?_) #[true, true, true, true, true, true, true, true, true, true, true, true, false, true, false] rfl rfl (any_of HT_.out (by kernel_rfl)) (fun _ _ _ h => h) (Or.inl ⟨by rfl, ?_⟩) ?_ ?_
    rotate_left
    ·intro w'
     go_simp
     with_reducible rfl
    rotate_left
    ·simp only [Act.put, List.setIfInBounds_toArray, List.set_cons_zero, List.set_cons_succ, i64_w, i32_w]
     rfl
    refine pure_ (i := 12) (N := some 22) (v := ?_) (a' := ?_) #[true, true, true, true, true, true, true, true, true, true, true, true, true, true, false] rfl rfl (any_of HT_.out (by kernel_rfl)) (fun _ _ _ h => h) (Or.inl ⟨by rfl, ?_⟩) ?_ ?_
    rotate_left
    ·intro w'
     go_simp
     with_reducible rfl
    rotate_left
    ·simp only [Act.put, List.setIfInBounds_toArray, List.set_cons_zero, List.set_cons_succ, i64_w, i32_w]
     rfl
    exact norm_ (by simp only [putAll, Act.put, List.setIfInBounds_toArray, List.set_cons_zero, List.set_cons_succ]) (hCont (gb105) _ ⟨hHeld, (by (with_reducible repeat (first | refine blk_drewN ?_ _ | refine blk_drew ?_ | refine blk_alloc ?_ _)); exact BK101.out), (by (with_reducible repeat (first | refine blk_drewN ?_ _ | refine blk_drew ?_ | refine blk_alloc ?_ _)); exact BK102.out), (by (with_reducible repeat (first | refine blk_drewN ?_ _ | refine blk_drew ?_ | refine blk_alloc ?_ _)); exact BK105.out), GW105.out, GE105.out, NB101_105.out, NB105_101.out, NB102_105.out, NB105_102.out, (by repeat (first | (with_reducible first | exact HB.out | apply below_alloc | apply pw_below_drewN | apply below_drew1 | refine below_set ?_ GE101.out | refine below_set ?_ GE102.out | refine below_set ?_ GE105.out) | exact HB.out))⟩)
  ·skip
   refine box_step ?hg (N := 7) ?hd (cs := #[.int .i64 0, .int .i64 0, .slice none 0 0]) (t := 24) ?hr ?_; (case hd => rfl); (case hg => rfl); (case hr => first | (go_simp; done) | (go_simp; rfl))
   intro gb105 hg w9 hbox hb
   have n0_ := Aside0.mk (blk_below (g := gb101) (o := .cells #[.int .i64 a0_0, .int .i64 a0_1, .slice A0_2 l0_2.length c0_2] 24 (0, 0)) (by (with_reducible repeat (first | refine blk_drewN ?_ _ | refine blk_drew ?_ | refine blk_alloc ?_ _)); exact BK101.out) hb)
   have n1_ := Aside0.mk (blk_below (g := gb102) (o := .cells #[.int .i64 0, .int .i64 0, .slice none 0 0] 24 (0, 0)) (by (with_reducible repeat (first | refine blk_drewN ?_ _ | refine blk_drew ?_ | refine blk_alloc ?_ _)); exact BK102.out) hb)
   have n2_ := Aside0.mk (below_step (by repeat (first | (with_reducible first | exact HB.out | apply below_alloc | apply pw_below_drewN | apply below_drew1 | refine below_set ?_ GE101.out | refine below_set ?_ GE102.out) | exact HB.out)) hb)
   have n3_ := Aside0.mk (hbox)
   have n4_ := Aside0.mk ((by rw [hg]; exact (below_size (by repeat (first | (with_reducible first | exact HB.out | apply below_alloc | apply pw_below_drewN | apply below_drew1 | refine below_set ?_ GE101.out | refine below_set ?_ GE102.out) | exact HB.out))) : w.heap.size ≤ gb105))
   have n5_ := Aside0.mk ((by rw [hg]; exact (below_size (by repeat (first | (with_reducible first | exact HB.out | apply below_alloc | apply pw_below_drewN | apply below_drew1 | refine below_set ?_ GE101.out | refine below_set ?_ GE102.out) | exact HB.out))) : w.heap.size ≤ gb105))
   have n6_ := Aside0.mk ((by rw [hg]; exact Nat.ne_of_lt (blk_lt (g := gb101) (o := .cells #[.int .i64 a0_0, .int .i64 a0_1, .slice A0_2 l0_2.length c0_2] 24 (0, 0)) (by (with_reducible repeat (first | refine blk_drewN ?_ _ | refine blk_drew ?_ | refine blk_alloc ?_ _)); exact BK101.out)) : gb101 ≠ gb105))
   have n7_ := Aside0.mk ((by rw [hg]; exact Nat.ne_of_gt (blk_lt (g := gb101) (o := .cells #[.int .i64 a0_0, .int .i64 a0_1, .slice A0_2 l0_2.length c0_2] 24 (0, 0)) (by (with_reducible repeat (first | refine blk_drewN ?_ _ | refine blk_drew ?_ | refine blk_alloc ?_ _)); exact BK101.out)) : gb105 ≠ gb101))
   have n8_ := Aside0.mk ((by rw [hg]; exact Nat.ne_of_lt (blk_lt (g := gb102) (o := .cells #[.int .i64 0, .int .i64 0, .slice none 0 0] 24 (0, 0)) (by (with_reducible repeat (first | refine blk_drewN ?_ _ | refine blk_drew ?_ | refine blk_alloc ?_ _)); exact BK102.out)) : gb102 ≠ gb105))
   have n9_ := Aside0.mk ((by rw [hg]; exact Nat.ne_of_gt (blk_lt (g := gb102) (o := .cells #[.int .i64 0, .int .i64 0, .slice none 0 0] 24 (0, 0)) (by (with_reducible repeat (first | refine blk_drewN ?_ _ | refine blk_drew ?_ | refine blk_alloc ?_ _)); exact BK102.out)) : gb105 ≠ gb102))
   clear BK101
   clear BK102
   clear HB
   have BK101 := n0_
   have BK102 := n1_
   have HB := n2_
   have BK105 := n3_
   have GW105 := n4_
   have GE105 := n5_
   have NB101_105 := n6_
   have NB105_101 := n7_
   have NB102_105 := n8_
   have NB105_102 := n9_
   clear n0_ n1_ n2_ n3_ n4_ n5_ n6_ n7_ n8_ n9_
   clear hb hbox hg
   refine hK.out _ _ ⟨(blk_cell BK101.out 0).trans rfl, (blk_cell BK101.out 1).trans rfl, (blk_cell BK101.out 2).trans rfl⟩ (fun hHeld => ?_)
   clear hK K
   refine norm_ (a' := ?_) ?_ ?_
   rotate_left
   ·show Act.put _ (some 7) _ = _
    simp only [Act.put, List.setIfInBounds_toArray, List.set_cons_zero, List.set_cons_succ, i64_w, i32_w]
    rfl
   refine one_ (i := 4) (N := some 14) #[true, true, true, true, true, false, true, true, true, true, false, false, false, true, false] rfl rfl (one_of HT_.out (by kernel_rfl)) (by decide) (fun K hK => ?_)
   refine goes_ Tryd.func6 (by kernel_rfl) rfl #[.int .i64 (wrap64 (a0_0 - 1)), .int .i64 a1] (by rfl) rfl rfl (by (try simp only [List.map_toArray, List.map_cons, List.map_nil]); first | done | rfl | (simp only [List.length_drop, List.length_take]; rfl)) ?_
   with_reducible refine (silversidetop_mod.calls (wrap64 (a0_0 - 1)) a1 t103 _ A4.out).mono ?_
   rintro e w' ⟨rfl, ⟨nd, rfl⟩⟩
   refine ⟨_, rfl, ?_⟩
   refine hK.out _ _ ⟨(blk_cell BK101.out 0).trans rfl, (blk_cell BK101.out 1).trans rfl, (blk_cell BK101.out 2).trans rfl⟩ (fun hHeld => ?_)
   clear hK K
   refine norm_ (a' := ?_) ?_ ?_
   rotate_left
   ·show Act.put _ (some 14) _ = _
    simp only [Act.put, List.setIfInBounds_toArray, List.set_cons_zero, List.set_cons_succ, i64_w, i32_w]
    rfl
   refine pure_ (i := 5) (N := some 15) (v := ?_) (a' := ?_) #[true, true, true, true, true, true, true, true, true, true, false, false, false, true, false] rfl rfl (any_of HT_.out (by kernel_rfl)) (fun _ _ _ h => h) (Or.inl ⟨by rfl, ?_⟩) ?_ ?_
   rotate_left
   ·intro w'
    go_simp
    with_reducible rfl
   rotate_left
   ·simp only [Act.put, List.setIfInBounds_toArray, List.set_cons_zero, List.set_cons_succ, i64_w, i32_w]
    rfl
   refine one_ (i := 10) (N := some 20) #[true, true, true, true, true, true, true, true, true, true, true, false, false, true, false] rfl rfl (one_of HT_.out (by kernel_rfl)) (by decide) (fun K hK => ?_)
   refine goes_ Tryd.func6 (by kernel_rfl) rfl #[.int .i64 (wrap64 (a0_1 - 1)), .int .i64 a1] (by rfl) rfl rfl (by (try simp only [List.map_toArray, List.map_cons, List.map_nil]); first | done | rfl | (simp only [List.length_drop, List.length_take]; rfl)) ?_
   with_reducible refine (silversidetop_mod.calls (wrap64 (a0_1 - 1)) a1 t104 _ A5.out).mono ?_
   rintro e w' ⟨rfl, ⟨nd, rfl⟩⟩
   refine ⟨_, rfl, ?_⟩
   refine hK.out _ _ ⟨(blk_cell BK101.out 0).trans rfl, (blk_cell BK101.out 1).trans rfl, (blk_cell BK101.out 2).trans rfl⟩ (fun hHeld => ?_)
   clear hK K
   refine norm_ (a' := ?_) ?_ ?_
   rotate_left
   ·show Act.put _ (some 20) _ = _
    simp only [Act.put, List.setIfInBounds_toArray, List.set_cons_zero, List.set_cons_succ, i64_w, i32_w]
    rfl
   refine pure_ (i := 11) (N := some 21) (v := ?_) (a' := ?_) #[true, true, true, true, true, true, true, true, true, true, true, true, false, true, false] rfl rfl (any_of HT_.out (by kernel_rfl)) (fun _ _ _ h => h) (Or.inl ⟨by rfl, ?_⟩) ?_ ?_
   rotate_left
   ·intro w'
    go_simp
    with_reducible rfl
   rotate_left
   ·simp only [Act.put, List.setIfInBounds_toArray, List.set_cons_zero, List.set_cons_succ, i64_w, i32_w]
    rfl
   refine pure_ (i := 12) (N := some 22) (v := ?_) (a' := ?_) #[true, true, true, true, true, true, true, true, true, true, true, true, true, true, false] rfl rfl (any_of HT_.out (by kernel_rfl)) (fun _ _ _ h => h) (Or.inl ⟨by rfl, ?_⟩) ?_ ?_
   rotate_left
   ·intro w'
    go_simp
    with_reducible rfl
   rotate_left
   ·simp only [Act.put, List.setIfInBounds_toArray, List.set_cons_zero, List.set_cons_succ, i64_w, i32_w]
    rfl
   exact norm_ (by simp only [putAll, Act.put, List.setIfInBounds_toArray, List.set_cons_zero, List.set_cons_succ]) (hCont (gb105) _ ⟨hHeld, (by (with_reducible repeat (first | refine blk_drewN ?_ _ | refine blk_drew ?_ | refine blk_alloc ?_ _)); exact BK101.out), (by (with_reducible repeat (first | refine blk_drewN ?_ _ | refine blk_drew ?_ | refine blk_alloc ?_ _)); exact BK102.out), (by (with_reducible repeat (first | refine blk_drewN ?_ _ | refine blk_drew ?_ | refine blk_alloc ?_ _)); exact BK105.out), GW105.out, GE105.out, NB101_105.out, NB105_101.out, NB102_105.out, NB105_102.out, (by repeat (first | (with_reducible first | exact HB.out | apply below_alloc | apply pw_below_drewN | apply below_drew1 | refine below_set ?_ GE101.out | refine below_set ?_ GE102.out | refine below_set ?_ GE105.out) | exact HB.out))⟩)
 rintro gb105 w10 ⟨hS_, h0_, h1_, h2_, h3_, h4_, h5_, h6_, h7_, h8_, h9_⟩
 have n0_ : Aside0 (w10.heap[gb101]? = some (.cells #[.int .i64 a0_0, .int .i64 a0_1, .slice A0_2 l0_2.length c0_2] 24 (0, 0))) := ⟨h0_⟩
 have n1_ : Aside0 (w10.heap[gb102]? = some (.cells #[.int .i64 0, .int .i64 0, .slice none 0 0] 24 (0, 0))) := ⟨h1_⟩
 have n2_ : Aside0 (w10.heap[gb105]? = some (.cells #[.int .i64 0, .int .i64 0, .slice none 0 0] 24 (0, 0))) := ⟨h2_⟩
 have n3_ : Aside0 (w.heap.size ≤ gb105) := ⟨h3_⟩
 have n4_ : Aside0 (w.heap.size ≤ gb105) := ⟨h4_⟩
 have n5_ : Aside0 (gb101 ≠ gb105) := ⟨h5_⟩
 have n6_ : Aside0 (gb105 ≠ gb101) := ⟨h6_⟩
 have n7_ : Aside0 (gb102 ≠ gb105) := ⟨h7_⟩
 have n8_ : Aside0 (gb105 ≠ gb102) := ⟨h8_⟩
 have n9_ : Aside0 (Below w.heap.size w w10) := ⟨h9_⟩
 clear BK101
 clear BK102
 clear HB
 clear h0_ h1_ h2_ h3_ h4_ h5_ h6_ h7_ h8_ h9_
 have BK101 := n0_
 have BK102 := n1_
 have BK105 := n2_
 have GW105 := n3_
 have GE105 := n4_
 have NB101_105 := n5_
 have NB105_101 := n6_
 have NB102_105 := n7_
 have NB105_102 := n8_
 have HB := n9_
 clear n0_ n1_ n2_ n3_ n4_ n5_ n6_ n7_ n8_ n9_
 have hHeld : w10.cell? ⟨gb101, 0, none⟩ = some (.int .i64 a0_0) ∧ w10.cell? ⟨gb101, 1, none⟩ = some (.int .i64 a0_1) ∧ w10.cell? ⟨gb101, 2, none⟩ = some (.slice A0_2 l0_2.length c0_2) := hS_
 refine norm_ (a' := ?_) ?_ ?_
 rotate_left
 ·simp only [putAll, Act.put, List.setIfInBounds_toArray, List.set_cons_zero, List.set_cons_succ]
  rfl
 refine one_ (i := 14) (N := none) #[true, true, true, true, true, true, true, true, true, true, true, true, true, true, true] rfl rfl (one_of HT_.out (by kernel_rfl)) (by decide) (fun K hK => ?_)
 have hs11 : w10.cell? ⟨gb105, 0, none⟩ = some (.int .i64 0) := (blk_cell BK105.out 0).trans rfl
 have hfs11 := blk_frozen BK105.out 0
 have hns11_0 := NB101_105.out
 have hns11_1 := NB102_105.out
 have hms11_0 := NB105_101.out
 have hms11_1 := NB105_102.out
 have hs12 : w10.cell? ⟨gb105, 1, none⟩ = some (.int .i64 0) := (blk_cell BK105.out 1).trans rfl
 have hfs12 := blk_frozen BK105.out 1
 have hns12_0 := NB101_105.out
 have hns12_1 := NB102_105.out
 have hms12_0 := NB105_101.out
 have hms12_1 := NB105_102.out
 have hs13 : w10.cell? ⟨gb105, 2, none⟩ = some (.slice none 0 0) := (blk_cell BK105.out 2).trans rfl
 have hfs13 := blk_frozen BK105.out 2
 have hns13_0 := NB101_105.out
 have hns13_1 := NB102_105.out
 have hms13_0 := NB105_101.out
 have hms13_1 := NB105_102.out
 refine skip_ (w1 := ?_) (by rfl) rfl ?_ ?_
 rotate_left
 ·go_simp
  rfl
 refine hK.out _ _ ⟨((cell_far (p := ⟨gb105, _, none⟩) NB101_105.out _).trans (((cell_far (p := ⟨gb105, _, none⟩) NB101_105.out _).trans (((cell_far (p := ⟨gb105, _, none⟩) NB101_105.out _).trans (hHeld.1)))))), ((cell_far (p := ⟨gb105, _, none⟩) NB101_105.out _).trans (((cell_far (p := ⟨gb105, _, none⟩) NB101_105.out _).trans (((cell_far (p := ⟨gb105, _, none⟩) NB101_105.out _).trans (hHeld.2.1)))))), ((cell_far (p := ⟨gb105, _, none⟩) NB101_105.out _).trans (((cell_far (p := ⟨gb105, _, none⟩) NB101_105.out _).trans (((cell_far (p := ⟨gb105, _, none⟩) NB101_105.out _).trans (hHeld.2.2))))))⟩ (fun hHeld => ?_)
 clear hK K
 refine done_ (done_of HT_.out (by kernel_rfl)) ?_
 try go_wp2
 go_loopg [8] k (fun kq v8 w' => ∃ (x8_1 : Int) (x106002_1 : List (S34)) (u106002 : Value), v8 = .int .i64 x8_1 ∧ Aside0 (silversidetop_task.l0 kq a1 a2 x8_1 a0_0 a0_1 l0_2 (wrap64 (1 + t103)) (wrap64 (1 + t104)) x106002_1 = some (r1, r2, r3)) ∧ Aside0 (kq ≤ k) ∧ Aside0 (Kd.R k34 34 w' w.heap.size (fun _ => True) u106002 x106002_1) ∧ Aside0 (w'.heap[gb101]? = some (.cells #[.int .i64 a0_0, .int .i64 a0_1, (.slice A0_2 l0_2.length c0_2)] 24 (0, 0))) ∧ Aside0 (w'.heap[gb102]? = some (.cells #[.int .i64 0, .int .i64 0, (.slice none 0 0)] 24 (0, 0))) ∧ Aside0 (w'.heap[gb105]? = some (.cells #[.int .i64 (wrap64 (1 + t103)), .int .i64 (wrap64 (1 + t104)), u106002] 24 (0, 0))) ∧ Aside0 (Below w.heap.size w w'))
 case atStart => exact ⟨(0), (([] : List (S34))), (.slice none 0 0), (by first | rfl | (simp; done) | (simp [*]; done)), H', ⟨Nat.le_refl _⟩, ⟨by first | exact Kd.R_nil _ _ _ _ _ | exact Kd.N_nil _ _ _ _ _ | exact Kd.V_nil _ _ _ _ _ | exact Kd.Q_nil _ _ _ _ _ | exact Kd.S_nil _ _ _ _ _⟩, ⟨by (with_reducible repeat (first | refine blk_drewN ?_ _ | refine blk_drew ?_ | refine blk_alloc ?_ _)); refine blk_far ?_ NB101_105.out _; (with_reducible repeat (first | refine blk_drewN ?_ _ | refine blk_drew ?_ | refine blk_alloc ?_ _)); refine blk_far ?_ NB101_105.out _; (with_reducible repeat (first | refine blk_drewN ?_ _ | refine blk_drew ?_ | refine blk_alloc ?_ _)); refine blk_far ?_ NB101_105.out _; (with_reducible repeat (first | refine blk_drewN ?_ _ | refine blk_drew ?_ | refine blk_alloc ?_ _)); exact BK101.out⟩, ⟨by (with_reducible repeat (first | refine blk_drewN ?_ _ | refine blk_drew ?_ | refine blk_alloc ?_ _)); refine blk_far ?_ NB102_105.out _; (with_reducible repeat (first | refine blk_drewN ?_ _ | refine blk_drew ?_ | refine blk_alloc ?_ _)); refine blk_far ?_ NB102_105.out _; (with_reducible repeat (first | refine blk_drewN ?_ _ | refine blk_drew ?_ | refine blk_alloc ?_ _)); refine blk_far ?_ NB102_105.out _; (with_reducible repeat (first | refine blk_drewN ?_ _ | refine blk_drew ?_ | refine blk_alloc ?_ _)); exact BK102.out⟩, ⟨by (with_reducible repeat (first | refine blk_drewN ?_ _ | refine blk_drew ?_ | refine blk_alloc ?_ _)); refine blk_put (cs := #[.int .i64 (wrap64 (1 + t103)), .int .i64 (wrap64 (1 + t104)), .slice none 0 0]) ?_ 2 _ rfl; (with_reducible repeat (first | refine blk_drewN ?_ _ | refine blk_drew ?_ | refine blk_alloc ?_ _)); refine blk_put (cs := #[.int .i64 (wrap64 (1 + t103)), .int .i64 0, .slice none 0 0]) ?_ 1 _ rfl; (with_reducible repeat (first | refine blk_drewN ?_ _ | refine blk_drew ?_ | refine blk_alloc ?_ _)); refine blk_put (cs := #[.int .i64 0, .int .i64 0, .slice none 0 0]) ?_ 0 _ rfl; (with_reducible repeat (first | refine blk_drewN ?_ _ | refine blk_drew ?_ | refine blk_alloc ?_ _)); exact BK105.out⟩, ⟨by repeat (first | (with_reducible first | exact HB.out | apply below_alloc | apply pw_below_drewN | apply below_drew1 | refine below_set ?_ GE101.out | refine below_set ?_ GE102.out | refine below_set ?_ GE105.out) | exact HB.out)⟩⟩
 case round =>
  clear H'
  try clear p2
  try clear c4
  try clear c6
  try clear p6
  obtain ⟨x8_1, x106002_1, u106002, rfl, HA, HK1, HO_106002, BK101, BK102, BK105, HB⟩ := hrel
  cases gk with
  | zero => exact absurd HA.out (by simp [silversidetop_task.l0])
  | succ k1 =>
   have H := HA.out
   clear HA
   simp only [silversidetop_task.l0] at H
   have HC14 := Aside0.mk H
   clear H
   go_upto_region 3 with (fail)
   go_cut [32] (fun v32 wc => ∃ (kq : Nat) (x32_13 : Bool), v32 = .bool x32_13 ∧ Aside0 (silversidetop_task.j1 kq a1 a2 x8_1 x32_13 a0_0 a0_1 l0_2 (wrap64 (1 + t103)) (wrap64 (1 + t104)) x106002_1 = some (r1, r2, r3)) ∧ Aside0 (kq ≤ k1) ∧ Aside0 (Kd.R k34 34 wc w.heap.size (fun _ => True) u106002 x106002_1) ∧ Aside0 (wc.heap[gb101]? = some (.cells #[.int .i64 a0_0, .int .i64 a0_1, (.slice A0_2 l0_2.length c0_2)] 24 (0, 0))) ∧ Aside0 (wc.heap[gb102]? = some (.cells #[.int .i64 0, .int .i64 0, (.slice none 0 0)] 24 (0, 0))) ∧ Aside0 (wc.heap[gb105]? = some (.cells #[.int .i64 (wrap64 (1 + t103)), .int .i64 (wrap64 (1 + t104)), u106002] 24 (0, 0))) ∧ Aside0 (Below w.heap.size w wc))
   case first =>
    have H := HC14.out
    clear HC14
    by_cases c15 : x8_1 < (l0_2.length : Int)
    ·rw [if_pos c15] at H
     have c15b0 : decide (x8_1 < (l0_2.length : Int)) = true := decide_eq_true c15
     clear c15
     (first | rw [c15b0] | (simp only [i64_w, i32_w]; rw [c15b0]) | skip)
     have H' := Aside0.mk H
     clear H
     have hnb16 := NB101_102.out
     have hnc16 := NB102_101.out
     have hnb17 := NB101_105.out
     have hnc17 := NB105_101.out
     have hcz18_0 : wr.cell? ⟨gb101, 0, none⟩ = some (.int .i64 a0_0) := (blk_cell BK101.out 0).trans rfl
     have hcz18_1 : wr.cell? ⟨gb101, 1, none⟩ = some (.int .i64 a0_1) := (blk_cell BK101.out 1).trans rfl
     have hcz18_2 : wr.cell? ⟨gb101, 2, none⟩ = some (.slice A0_2 l0_2.length c0_2) := (blk_cell BK101.out 2).trans rfl
     have hfz18_0 := blk_frozen BK101.out 0
     have hfz18_1 := blk_frozen BK101.out 1
     have hfz18_2 := blk_frozen BK101.out 2
     go_wp2
     go_meet
     case rel => exact ⟨_, (decide (x8_1 < a2)), (by first | rfl | (simp; done) | (simp [*]; done)), H', ⟨by have := HK1.out; first | omega | exact Nat.le_refl _⟩, ⟨by (with_reducible repeat (first | apply Kd.R_alloc | apply Kd.R_drewN | apply Kd.R_drew)); exact HO_106002.out⟩, ⟨by (with_reducible repeat (first | refine blk_drewN ?_ _ | refine blk_drew ?_ | refine blk_alloc ?_ _)); exact BK101.out⟩, ⟨by (with_reducible repeat (first | refine blk_drewN ?_ _ | refine blk_drew ?_ | refine blk_alloc ?_ _)); exact BK102.out⟩, ⟨by (with_reducible repeat (first | refine blk_drewN ?_ _ | refine blk_drew ?_ | refine blk_alloc ?_ _)); exact BK105.out⟩, ⟨by repeat (first | (with_reducible first | exact HB.out | apply below_alloc | apply pw_below_drewN | apply below_drew1 | refine below_set ?_ GE101.out | refine below_set ?_ GE102.out | refine below_set ?_ GE105.out) | exact HB.out)⟩⟩
    ·rw [if_neg c15] at H
     have c15b0 : decide (x8_1 < (l0_2.length : Int)) = false := decide_eq_false c15
     clear c15
     (first | rw [c15b0] | (simp only [i64_w, i32_w]; rw [c15b0]) | skip)
     have H' := Aside0.mk H
     clear H
     have hnb19 := NB101_102.out
     have hnc19 := NB102_101.out
     have hnb20 := NB101_105.out
     have hnc20 := NB105_101.out
     have hcz21_0 : wr.cell? ⟨gb101, 0, none⟩ = some (.int .i64 a0_0) := (blk_cell BK101.out 0).trans rfl
     have hcz21_1 : wr.cell? ⟨gb101, 1, none⟩ = some (.int .i64 a0_1) := (blk_cell BK101.out 1).trans rfl
     have hcz21_2 : wr.cell? ⟨gb101, 2, none⟩ = some (.slice A0_2 l0_2.length c0_2) := (blk_cell BK101.out 2).trans rfl
     have hfz21_0 := blk_frozen BK101.out 0
     have hfz21_1 := blk_frozen BK101.out 1
     have hfz21_2 := blk_frozen BK101.out 2
     go_wp2
     go_meet
     case rel => exact ⟨_, (false), (by first | rfl | (simp; done) | (simp [*]; done)), H', ⟨by have := HK1.out; first | omega | exact Nat.le_refl _⟩, ⟨by (with_reducible repeat (first | apply Kd.R_alloc | apply Kd.R_drewN | apply Kd.R_drew)); exact HO_106002.out⟩, ⟨by (with_reducible repeat (first | refine blk_drewN ?_ _ | refine blk_drew ?_ | refine blk_alloc ?_ _)); exact BK101.out⟩, ⟨by (with_reducible repeat (first | refine blk_drewN ?_ _ | refine blk_drew ?_ | refine blk_alloc ?_ _)); exact BK102.out⟩, ⟨by (with_reducible repeat (first | refine blk_drewN ?_ _ | refine blk_drew ?_ | refine blk_alloc ?_ _)); exact BK105.out⟩, ⟨by repeat (first | (with_reducible first | exact HB.out | apply below_alloc | apply pw_below_drewN | apply below_drew1 | refine below_set ?_ GE101.out | refine below_set ?_ GE102.out | refine below_set ?_ GE105.out) | exact HB.out)⟩⟩
   case rest =>
    clear HC14
    try clear c1
    try clear c2
    try clear p2
    try clear c4
    try clear c6
    try clear p6
    try clear c15
    try clear c15b0
    try clear c16
    try clear c17
    try clear c19
    try clear c20
    try clear hcz18_0
    try clear hcz18_1
    try clear hcz18_2
    try clear hcz21_0
    try clear hcz21_1
    try clear hcz21_2
    try clear hfz18_0
    try clear hfz18_1
    try clear hfz18_2
    try clear hfz21_0
    try clear hfz21_1
    try clear hfz21_2
    try clear p2
    try clear p6
    obtain ⟨kq, x32_13, rfl, HA, HJ13, HO_106002, BK101, BK102, BK105, HB⟩ := hcut
    cases kq with
    | zero => exact absurd HA.out (by simp [silversidetop_task.j1])
    | succ kj13 =>
     have H := HA.out
     clear HA
     simp only [silversidetop_task.j1] at H
     by_cases c22 : x32_13 = true
     ·subst c22
      have H1 : (if 0 ≤ x8_1 then (if x8_1 < (l0_2.length : Int) then ((silversidetop_mod.f (wrap64 (((rd_T34 l0_2 x8_1).f0) - 1)) a1).bind fun t108 => ((silversidetop_mod.f (wrap64 (((rd_T34 l0_2 x8_1).f1) - 1)) a1).bind fun t109 => ((silversidetop_mod.f ((rd_T34 l0_2 x8_1).f2) 200).bind fun t110 => (if x106002_1.length < 5864062014805 then (silversidetop_task.l0 kj13 a1 a2 (wrap64 (x8_1 + 1)) a0_0 a0_1 l0_2 (wrap64 (1 + t103)) (wrap64 (1 + t104)) (x106002_1 ++ [(⟨wrap64 (1 + t108), wrap64 (1 + t109), t110⟩ : S34)])) else (none))))) else (none)) else (none)) = some (r1, r2, r3) := by rw [if_pos rfl] at H; exact H
      clear H
      have H := H1
      clear H1
      by_cases c23 : 0 ≤ x8_1
      ·rw [if_pos c23] at H
       have c23b0 : decide (0 ≤ x8_1) = true := decide_eq_true c23
       clear c23
       by_cases c24 : x8_1 < (l0_2.length : Int)
       ·rw [if_pos c24] at H
        have c24b0 : decide (x8_1 < (l0_2.length : Int)) = true := decide_eq_true c24
        clear c24
        replace H := Option.bind_eq_some_iff.mp H
        obtain ⟨t108, A250, H⟩ := H
        replace H : ((silversidetop_mod.f (wrap64 (((rd_T34 l0_2 x8_1).f1) - 1)) a1).bind fun t109 => ((silversidetop_mod.f ((rd_T34 l0_2 x8_1).f2) 200).bind fun t110 => (if x106002_1.length < 5864062014805 then (silversidetop_task.l0 kj13 a1 a2 (wrap64 (x8_1 + 1)) a0_0 a0_1 l0_2 (wrap64 (1 + t103)) (wrap64 (1 + t104)) (x106002_1 ++ [(⟨wrap64 (1 + t108), wrap64 (1 + t109), t110⟩ : S34)])) else (none)))) = some (r1, r2, r3) := H
        have A25 := Aside0.mk A250; (try simp only [Int.toNat_natCast] at A25)
        clear A250
        replace H := Option.bind_eq_some_iff.mp H
        obtain ⟨t109, A260, H⟩ := H
        replace H : ((silversidetop_mod.f ((rd_T34 l0_2 x8_1).f2) 200).bind fun t110 => (if x106002_1.length < 5864062014805 then (silversidetop_task.l0 kj13 a1 a2 (wrap64 (x8_1 + 1)) a0_0 a0_1 l0_2 (wrap64 (1 + t103)) (wrap64 (1 + t104)) (x106002_1 ++ [(⟨wrap64 (1 + t108), wrap64 (1 + t109), t110⟩ : S34)])) else (none))) = some (r1, r2, r3) := H
        have A26 := Aside0.mk A260; (try simp only [Int.toNat_natCast] at A26)
        clear A260
        replace H := Option.bind_eq_some_iff.mp H
        obtain ⟨t110, A270, H⟩ := H
        replace H : (if x106002_1.length < 5864062014805 then (silversidetop_task.l0 kj13 a1 a2 (wrap64 (x8_1 + 1)) a0_0 a0_1 l0_2 (wrap64 (1 + t103)) (wrap64 (1 + t104)) (x106002_1 ++ [(⟨wrap64 (1 + t108), wrap64 (1 + t109), t110⟩ : S34)])) else (none)) = some (r1, r2, r3) := H
        have A27 := Aside0.mk A270; (try simp only [Int.toNat_natCast] at A27)
        clear A270
        by_cases c28 : x106002_1.length < 5864062014805
        ·rw [if_pos c28] at H
         have LMc28 := Aside0.mk c28
         clear c28
         obtain ⟨y111, hy111⟩ : ∃ y_ : List (S34), y_ = (x106002_1 ++ [(⟨wrap64 (1 + t108), wrap64 (1 + t109), t110⟩ : S34)]) := ⟨_, rfl⟩
         replace H : (silversidetop_task.l0 kj13 a1 a2 (wrap64 (x8_1 + 1)) a0_0 a0_1 l0_2 (wrap64 (1 + t103)) (wrap64 (1 + t104)) y111) = some (r1, r2, r3) := by first | (rw [hy111]; with_reducible exact H) | (have H2_ := (Option.bind_some _ _).symm.trans H; rw [hy111]; with_reducible exact H2_) | (have H2_ := (Option.bind_some _ _).symm.trans H; with_reducible exact H2_) | with_reducible exact H | (rw [hy111]; exact H) | exact H
         have Ny111 := Aside0.mk hy111
         clear hy111
         have H' := Aside0.mk H
         clear H
         have hnb29 := NB101_102.out
         have hnc29 := NB102_101.out
         have hnb30 := NB101_105.out
         have hnc30 := NB105_101.out
         have hcz31_0 : wc.cell? ⟨gb101, 0, none⟩ = some (.int .i64 a0_0) := (blk_cell BK101.out 0).trans rfl
         have hcz31_1 : wc.cell? ⟨gb101, 1, none⟩ = some (.int .i64 a0_1) := (blk_cell BK101.out 1).trans rfl
         have hcz31_2 : wc.cell? ⟨gb101, 2, none⟩ = some (.slice A0_2 l0_2.length c0_2) := (blk_cell BK101.out 2).trans rfl
         have hfz31_0 := blk_frozen BK101.out 0
         have hfz31_1 := blk_frozen BK101.out 1
         have hfz31_2 := blk_frozen BK101.out 2
         have p106 : 0 ≤ (x8_1 : Int) := of_decide_eq_true (by first | (with_reducible assumption) | assumption)
         have q106 : x8_1 < (l0_2.length : Int) := of_decide_eq_true (by first | (with_reducible assumption) | assumption)
         obtain ⟨ad106, e106, hx106_0, hx106_1, hx106_2⟩ := at_T34 HR0_2.out x8_1 p106 q106
         cases e106
         replace hx106_0 := (HB.out.cell (World.block_lt_of_cell? w _ hx106_0)).trans hx106_0
         replace hx106_1 := (HB.out.cell (World.block_lt_of_cell? w _ hx106_1)).trans hx106_1
         replace hx106_2 := (HB.out.cell (World.block_lt_of_cell? w _ hx106_2)).trans hx106_2
         replace p106 := eq_true p106
         replace q106 := eq_true q106
         try go_wp2_with (first | ((with_reducible refine gate_dst (N := 9) rfl ?_); refine box_event ?hg (N := 9) ?hd (cs := #[.int .i64 0, .int .i64 0, .int .i64 0]) (t := 34) ?hr ?_; (case hd => rfl); (case hg => rfl); (case hr => first | (go_simp; done) | (go_simp; rfl)); intro gb107 hg w32 hbox hb; have n0_ := Aside0.mk (Kd.R_below (Kd.R_elderB (by (with_reducible repeat (first | apply Kd.R_alloc | apply Kd.R_drewN | apply Kd.R_drew)); exact HO_106002.out) gb107 (Nat.le_of_eq hg.symm)) hb); have n1_ := Aside0.mk (blk_below (g := gb101) (o := .cells #[.int .i64 a0_0, .int .i64 a0_1, .slice (some ad106) l0_2.length c0_2] 24 (0, 0)) (by (with_reducible repeat (first | refine blk_drewN ?_ _ | refine blk_drew ?_ | refine blk_alloc ?_ _)); exact BK101.out) hb); have n2_ := Aside0.mk (blk_below (g := gb102) (o := .cells #[.int .i64 0, .int .i64 0, .slice none 0 0] 24 (0, 0)) (by (with_reducible repeat (first | refine blk_drewN ?_ _ | refine blk_drew ?_ | refine blk_alloc ?_ _)); exact BK102.out) hb); have n3_ := Aside0.mk (blk_below (g := gb105) (o := .cells #[.int .i64 (wrap64 (1 + t103)), .int .i64 (wrap64 (1 + t104)), u106002] 24 (0, 0)) (by (with_reducible repeat (first | refine blk_drewN ?_ _ | refine blk_drew ?_ | refine blk_alloc ?_ _)); exact BK105.out) hb); have n4_ := Aside0.mk (below_step (by repeat (first | (with_reducible first | exact HB.out | apply below_alloc | apply pw_below_drewN | apply below_drew1 | refine below_set ?_ GE101.out | refine below_set ?_ GE102.out | refine below_set ?_ GE105.out) | exact HB.out)) hb); have n5_ := Aside0.mk (hbox); have n6_ := Aside0.mk ((by rw [hg]; exact (below_size (by repeat (first | (with_reducible first | exact HB.out | apply below_alloc | apply pw_below_drewN | apply below_drew1 | refine below_set ?_ GE101.out | refine below_set ?_ GE102.out | refine below_set ?_ GE105.out) | exact HB.out))) : w.heap.size ≤ gb107)); have n7_ := Aside0.mk ((by rw [hg]; exact (below_size (by repeat (first | (with_reducible first | exact HB.out | apply below_alloc | apply pw_below_drewN | apply below_drew1 | refine below_set ?_ GE101.out | refine below_set ?_ GE102.out | refine below_set ?_ GE105.out) | exact HB.out))) : w.heap.size ≤ gb107)); have n8_ := Aside0.mk ((by rw [hg]; exact Nat.ne_of_lt (blk_lt (g := gb101) (o := .cells #[.int .i64 a0_0, .int .i64 a0_1, .slice (some ad106) l0_2.length c0_2] 24 (0, 0)) (by (with_reducible repeat (first | refine blk_drewN ?_ _ | refine blk_drew ?_ | refine blk_alloc ?_ _)); exact BK101.out)) : gb101 ≠ gb107)); have n9_ := Aside0.mk ((by rw [hg]; exact Nat.ne_of_gt (blk_lt (g := gb101) (o := .cells #[.int .i64 a0_0, .int .i64 a0_1, .slice (some ad106) l0_2.length c0_2] 24 (0, 0)) (by (with_reducible repeat (first | refine blk_drewN ?_ _ | refine blk_drew ?_ | refine blk_alloc ?_ _)); exact BK101.out)) : gb107 ≠ gb101)); have n10_ := Aside0.mk ((by rw [hg]; exact Nat.ne_of_lt (blk_lt (g := gb102) (o := .cells #[.int .i64 0, .int .i64 0, .slice none 0 0] 24 (0, 0)) (by (with_reducible repeat (first | refine blk_drewN ?_ _ | refine blk_drew ?_ | refine blk_alloc ?_ _)); exact BK102.out)) : gb102 ≠ gb107)); have n11_ := Aside0.mk ((by rw [hg]; exact Nat.ne_of_gt (blk_lt (g := gb102) (o := .cells #[.int .i64 0, .int .i64 0, .slice none 0 0] 24 (0, 0)) (by (with_reducible repeat (first | refine blk_drewN ?_ _ | refine blk_drew ?_ | refine blk_alloc ?_ _)); exact BK102.out)) : gb107 ≠ gb102)); have n12_ := Aside0.mk ((by rw [hg]; exact Nat.ne_of_lt (blk_lt (g := gb105) (o := .cells #[.int .i64 (wrap64 (1 + t103)), .int .i64 (wrap64 (1 + t104)), u106002] 24 (0, 0)) (by (with_reducible repeat (first | refine blk_drewN ?_ _ | refine blk_drew ?_ | refine blk_alloc ?_ _)); exact BK105.out)) : gb105 ≠ gb107)); have n13_ := Aside0.mk ((by rw [hg]; exact Nat.ne_of_gt (blk_lt (g := gb105) (o := .cells #[.int .i64 (wrap64 (1 + t103)), .int .i64 (wrap64 (1 + t104)), u106002] 24 (0, 0)) (by (with_reducible repeat (first | refine blk_drewN ?_ _ | refine blk_drew ?_ | refine blk_alloc ?_ _)); exact BK105.out)) : gb107 ≠ gb105)); clear HO_106002; clear BK101; clear BK102; clear BK105; clear HB; have HO_106002 := n0_; have BK101 := n1_; have BK102 := n2_; have BK105 := n3_; have HB := n4_; have BK107 := n5_; have GW107 := n6_; have GE107 := n7_; have NB101_107 := n8_; have NB107_101 := n9_; have NB102_107 := n10_; have NB107_102 := n11_; have NB105_107 := n12_; have NB107_105 := n13_; clear n0_ n1_ n2_ n3_ n4_ n5_ n6_ n7_ n8_ n9_ n10_ n11_ n12_ n13_; clear hb hbox hg; have hnb33 := NB107_101.out; have hnc33 := NB101_107.out; have hnb34 := NB107_102.out; have hnc34 := NB102_107.out; have hnb35 := NB107_105.out; have hnc35 := NB105_107.out; have hcz36_0 : w32.cell? ⟨gb107, 0, none⟩ = some (.int .i64 0) := (blk_cell BK107.out 0).trans rfl; have hcz36_1 : w32.cell? ⟨gb107, 1, none⟩ = some (.int .i64 0) := (blk_cell BK107.out 1).trans rfl; have hcz36_2 : w32.cell? ⟨gb107, 2, none⟩ = some (.int .i64 0) := (blk_cell BK107.out 2).trans rfl; have hfz36_0 := blk_frozen BK107.out 0; have hfz36_1 := blk_frozen BK107.out 1; have hfz36_2 := blk_frozen BK107.out 2))
         have n0_ : Aside0 (Kd.R k34 34 (((w32.setCell ⟨gb107, 0, none⟩ (.int .i64 ((rd_T34 l0_2 x8_1).f0))).setCell ⟨gb107, 1, none⟩ (.int .i64 ((rd_T34 l0_2 x8_1).f1))).setCell ⟨gb107, 2, none⟩ (.int .i64 ((rd_T34 l0_2 x8_1).f2))) w.heap.size (fun k_ => k_ ≠ gb107) u106002 x106002_1) := ⟨by (with_reducible repeat (first | apply Kd.R_alloc | apply Kd.R_drewN | apply Kd.R_drew)); exact Kd.R_mono (Kd.R_far (p := ⟨gb107, 2, none⟩) (Kd.R_far (p := ⟨gb107, 1, none⟩) (Kd.R_far (p := ⟨gb107, 0, none⟩) (Kd.R_mono HO_106002.out (fun k_ hk => (⟨hk, hk.2⟩ : _ ∧ k_ ≠ gb107))) (fun _ hk => hk.2) (.int .i64 ((rd_T34 l0_2 x8_1).f0))) (fun _ hk => hk.2) (.int .i64 ((rd_T34 l0_2 x8_1).f1))) (fun _ hk => hk.2) (.int .i64 ((rd_T34 l0_2 x8_1).f2))) (fun _ hk => hk.1.2)⟩
         have n1_ : Aside0 ((((w32.setCell ⟨gb107, 0, none⟩ (.int .i64 ((rd_T34 l0_2 x8_1).f0))).setCell ⟨gb107, 1, none⟩ (.int .i64 ((rd_T34 l0_2 x8_1).f1))).setCell ⟨gb107, 2, none⟩ (.int .i64 ((rd_T34 l0_2 x8_1).f2))).heap[gb101]? = some (.cells #[.int .i64 a0_0, .int .i64 a0_1, .slice (some ad106) l0_2.length c0_2] 24 (0, 0))) := ⟨by (with_reducible repeat (first | refine blk_drewN ?_ _ | refine blk_drew ?_ | refine blk_alloc ?_ _)); refine blk_far ?_ NB101_107.out _; (with_reducible repeat (first | refine blk_drewN ?_ _ | refine blk_drew ?_ | refine blk_alloc ?_ _)); refine blk_far ?_ NB101_107.out _; (with_reducible repeat (first | refine blk_drewN ?_ _ | refine blk_drew ?_ | refine blk_alloc ?_ _)); refine blk_far ?_ NB101_107.out _; (with_reducible repeat (first | refine blk_drewN ?_ _ | refine blk_drew ?_ | refine blk_alloc ?_ _)); exact BK101.out⟩
         have n2_ : Aside0 ((((w32.setCell ⟨gb107, 0, none⟩ (.int .i64 ((rd_T34 l0_2 x8_1).f0))).setCell ⟨gb107, 1, none⟩ (.int .i64 ((rd_T34 l0_2 x8_1).f1))).setCell ⟨gb107, 2, none⟩ (.int .i64 ((rd_T34 l0_2 x8_1).f2))).heap[gb102]? = some (.cells #[.int .i64 0, .int .i64 0, .slice none 0 0] 24 (0, 0))) := ⟨by (with_reducible repeat (first | refine blk_drewN ?_ _ | refine blk_drew ?_ | refine blk_alloc ?_ _)); refine blk_far ?_ NB102_107.out _; (with_reducible repeat (first | refine blk_drewN ?_ _ | refine blk_drew ?_ | refine blk_alloc ?_ _)); refine blk_far ?_ NB102_107.out _; (with_reducible repeat (first | refine blk_drewN ?_ _ | refine blk_drew ?_ | refine blk_alloc ?_ _)); refine blk_far ?_ NB102_107.out _; (with_reducible repeat (first | refine blk_drewN ?_ _ | refine blk_drew ?_ | refine blk_alloc ?_ _)); exact BK102.out⟩
         have n3_ : Aside0 ((((w32.setCell ⟨gb107, 0, none⟩ (.int .i64 ((rd_T34 l0_2 x8_1).f0))).setCell ⟨gb107, 1, none⟩ (.int .i64 ((rd_T34 l0_2 x8_1).f1))).setCell ⟨gb107, 2, none⟩ (.int .i64 ((rd_T34 l0_2 x8_1).f2))).heap[gb105]? = some (.cells #[.int .i64 (wrap64 (1 + t103)), .int .i64 (wrap64 (1 + t104)), u106002] 24 (0, 0))) := ⟨by (with_reducible repeat (first | refine blk_drewN ?_ _ | refine blk_drew ?_ | refine blk_alloc ?_ _)); refine blk_far ?_ NB105_107.out _; (with_reducible repeat (first | refine blk_drewN ?_ _ | refine blk_drew ?_ | refine blk_alloc ?_ _)); refine blk_far ?_ NB105_107.out _; (with_reducible repeat (first | refine blk_drewN ?_ _ | refine blk_drew ?_ | refine blk_alloc ?_ _)); refine blk_far ?_ NB105_107.out _; (with_reducible repeat (first | refine blk_drewN ?_ _ | refine blk_drew ?_ | refine blk_alloc ?_ _)); exact BK105.out⟩
         have n4_ : Aside0 ((((w32.setCell ⟨gb107, 0, none⟩ (.int .i64 ((rd_T34 l0_2 x8_1).f0))).setCell ⟨gb107, 1, none⟩ (.int .i64 ((rd_T34 l0_2 x8_1).f1))).setCell ⟨gb107, 2, none⟩ (.int .i64 ((rd_T34 l0_2 x8_1).f2))).heap[gb107]? = some (.cells #[.int .i64 ((rd_T34 l0_2 x8_1).f0), .int .i64 ((rd_T34 l0_2 x8_1).f1), .int .i64 ((rd_T34 l0_2 x8_1).f2)] 34 (0, 0))) := ⟨by (with_reducible repeat (first | refine blk_drewN ?_ _ | refine blk_drew ?_ | refine blk_alloc ?_ _)); refine blk_put (cs := #[.int .i64 ((rd_T34 l0_2 x8_1).f0), .int .i64 ((rd_T34 l0_2 x8_1).f1), .int .i64 0]) ?_ 2 _ rfl; (with_reducible repeat (first | refine blk_drewN ?_ _ | refine blk_drew ?_ | refine blk_alloc ?_ _)); refine blk_put (cs := #[.int .i64 ((rd_T34 l0_2 x8_1).f0), .int .i64 0, .int .i64 0]) ?_ 1 _ rfl; (with_reducible repeat (first | refine blk_drewN ?_ _ | refine blk_drew ?_ | refine blk_alloc ?_ _)); refine blk_put (cs := #[.int .i64 0, .int .i64 0, .int .i64 0]) ?_ 0 _ rfl; (with_reducible repeat (first | refine blk_drewN ?_ _ | refine blk_drew ?_ | refine blk_alloc ?_ _)); exact BK107.out⟩
         have n5_ : Aside0 (Below w.heap.size w (((w32.setCell ⟨gb107, 0, none⟩ (.int .i64 ((rd_T34 l0_2 x8_1).f0))).setCell ⟨gb107, 1, none⟩ (.int .i64 ((rd_T34 l0_2 x8_1).f1))).setCell ⟨gb107, 2, none⟩ (.int .i64 ((rd_T34 l0_2 x8_1).f2)))) := ⟨by repeat (first | (with_reducible first | exact HB.out | apply below_alloc | apply pw_below_drewN | apply below_drew1 | refine below_set ?_ GE101.out | refine below_set ?_ GE102.out | refine below_set ?_ GE105.out | refine below_set ?_ GE107.out) | exact HB.out)⟩
         (try clear HO_106002)
         (try clear BK101)
         (try clear BK102)
         (try clear BK105)
         (try clear BK107)
         (try clear HB)
         generalize (((w32.setCell ⟨gb107, 0, none⟩ (.int .i64 ((rd_T34 l0_2 x8_1).f0))).setCell ⟨gb107, 1, none⟩ (.int .i64 ((rd_T34 l0_2 x8_1).f1))).setCell ⟨gb107, 2, none⟩ (.int .i64 ((rd_T34 l0_2 x8_1).f2))) = w37 at n0_ n1_ n2_ n3_ n4_ n5_ ⊢
         have HO_106002 := n0_
         have BK101 := n1_
         have BK102 := n2_
         have BK105 := n3_
         have BK107 := n4_
         have HB := n5_
         clear n0_ n1_ n2_ n3_ n4_ n5_
         have n0_ := Aside0.mk (Kd.R_drew HO_106002.out)
         have n1_ := Aside0.mk (blk_drew BK101.out)
         have n2_ := Aside0.mk (blk_drew BK102.out)
         have n3_ := Aside0.mk (blk_drew BK105.out)
         have n4_ := Aside0.mk (blk_drew BK107.out)
         have n5_ := Aside0.mk (below_drew1 HB.out)
         clear HO_106002
         clear BK101
         clear BK102
         clear BK105
         clear BK107
         clear HB
         have HO_106002 := n0_
         have BK101 := n1_
         have BK102 := n2_
         have BK105 := n3_
         have BK107 := n4_
         have HB := n5_
         clear n0_ n1_ n2_ n3_ n4_ n5_
         refine start_ (n := 22) (S := fun w' => w'.cell? ⟨gb105, 0, none⟩ = some (.int .i64 (wrap64 (1 + t103))) ∧ w'.cell? ⟨gb105, 1, none⟩ = some (.int .i64 (wrap64 (1 + t104))) ∧ w'.cell? ⟨gb105, 2, none⟩ = some (u106002) ∧ w'.cell? ⟨gb107, 0, none⟩ = some (.int .i64 ((rd_T34 l0_2 x8_1).f0)) ∧ w'.cell? ⟨gb107, 1, none⟩ = some (.int .i64 ((rd_T34 l0_2 x8_1).f1)) ∧ w'.cell? ⟨gb107, 2, none⟩ = some (.int .i64 ((rd_T34 l0_2 x8_1).f2))) (ds := [21]) #[false, false, false, false, false, false, false, false, false, false, false, false, false, false, false, false, false, false, false, false, false, false] (by kernel_rfl) rfl rfl ⟨(blk_cell BK105.out 0).trans rfl, (blk_cell BK105.out 1).trans rfl, (blk_cell BK105.out 2).trans rfl, (blk_cell BK107.out 0).trans rfl, (blk_cell BK107.out 1).trans rfl, (blk_cell BK107.out 2).trans rfl⟩ (fun hHeld => ?_); refine with_tabW silversidetop_task.tab6 silversidetop_task.bits6 (fun HT_ HW_ => ?_)
         generalize w37.drew = w38 at HO_106002 BK101 BK102 BK105 BK107 HB hHeld ⊢
         refine pure_ (i := 0) (N := some 40) (v := ?_) (a' := ?_) #[true, false, false, false, false, false, false, false, false, false, false, false, false, false, false, false, false, false, false, false, false, false] rfl rfl (any_of HT_.out (by kernel_rfl)) (fun _ _ _ h => h) (Or.inl ⟨by rfl, ?_⟩) ?_ ?_
         rotate_left
         ·intro w'
          go_simp
          with_reducible rfl
         rotate_left
         ·simp only [Act.put, List.setIfInBounds_toArray, List.set_cons_zero, List.set_cons_succ, i64_w, i32_w]
          rfl
         refine pure_ (i := 2) (N := some 42) (v := ?_) (a' := ?_) #[true, false, true, false, false, false, false, false, false, false, false, false, false, false, false, false, false, false, false, false, false, false] rfl rfl (any_of HT_.out (by kernel_rfl)) (fun _ _ _ h => h) (Or.inl ⟨by rfl, ?_⟩) ?_ ?_
         rotate_left
         ·intro w'
          go_simp
          with_reducible rfl
         rotate_left
         ·simp only [Act.put, List.setIfInBounds_toArray, List.set_cons_zero, List.set_cons_succ, i64_w, i32_w]
          rfl
         refine pure_ (i := 5) (N := some 45) (v := ?_) (a' := ?_) #[true, false, true, false, false, true, false, false, false, false, false, false, false, false, false, false, false, false, false, false, false, false] rfl rfl (any_of HT_.out (by kernel_rfl)) (fun _ _ _ h => h) (Or.inl ⟨by rfl, ?_⟩) ?_ ?_
         rotate_left
         ·intro w'
          go_simp
          with_reducible rfl
         rotate_left
         ·simp only [Act.put, List.setIfInBounds_toArray, List.set_cons_zero, List.set_cons_succ, i64_w, i32_w]
          rfl
         refine pure_ (i := 8) (N := some 48) (v := ?_) (a' := ?_) #[true, false, true, false, false, true, false, false, true, false, false, false, false, false, false, false, false, false, false, false, false, false] rfl rfl (any_of HT_.out (by kernel_rfl)) (fun _ _ _ h => h) (Or.inl ⟨by rfl, ?_⟩) ?_ ?_
         rotate_left
         ·intro w'
          go_simp
          with_reducible rfl
         rotate_left
         ·simp only [Act.put, List.setIfInBounds_toArray, List.set_cons_zero, List.set_cons_succ, i64_w, i32_w]
          rfl
         refine pure_ (i := 11) (N := some 51) (v := ?_) (a' := ?_) #[true, false, true, false, false, true, false, false, true, false, false, true, false, false, false, false, false, false, false, false, false, false] rfl rfl (any_of HT_.out (by kernel_rfl)) (fun _ _ _ h => h) (Or.inl ⟨by rfl, ?_⟩) ?_ ?_
         rotate_left
         ·intro w'
          go_simp
          with_reducible rfl
         rotate_left
         ·simp only [Act.put, List.setIfInBounds_toArray, List.set_cons_zero, List.set_cons_succ, i64_w, i32_w]
          rfl
         refine pure_ (i := 14) (N := some 54) (v := ?_) (a' := ?_) #[true, false, true, false, false, true, false, false, true, false, false, true, false, false, true, false, false, false, false, false, false, false] rfl rfl (any_of HT_.out (by kernel_rfl)) (fun _ _ _ h => h) (Or.inl ⟨by rfl, ?_⟩) ?_ ?_
         rotate_left
         ·intro w'
          go_simp
          with_reducible rfl
         rotate_left
         ·simp only [Act.put, List.setIfInBounds_toArray, List.set_cons_zero, List.set_cons_succ, i64_w, i32_w]
          rfl
         refine take_ (i := 1) (N := some 41) (v := ?_) (a' := ?_) #[true, true, true, false, false, true, false, false, true, false, false, true, false, false, true, false, false, false, false, false, false, false] rfl rfl (take_ofW HT_.out HW_.out (by kernel_rfl)) (fun _ _ _ h => h) (Or.inl ⟨by rfl, ?_⟩) hHeld ?_ ?_
         rotate_left
         ·rintro w' ⟨s0, s1, s2, s3, s4, s5⟩
          go_simp
          with_reducible rfl
         rotate_left
         ·simp only [Act.put, List.setIfInBounds_toArray, List.set_cons_zero, List.set_cons_succ, i64_w, i32_w]
          rfl
         refine take_ (i := 3) (N := some 43) (v := ?_) (a' := ?_) #[true, true, true, true, false, true, false, false, true, false, false, true, false, false, true, false, false, false, false, false, false, false] rfl rfl (take_ofW HT_.out HW_.out (by kernel_rfl)) (fun _ _ _ h => h) (Or.inl ⟨by rfl, ?_⟩) hHeld ?_ ?_
         rotate_left
         ·rintro w' ⟨s0, s1, s2, s3, s4, s5⟩
          go_simp
          with_reducible rfl
         rotate_left
         ·simp only [Act.put, List.setIfInBounds_toArray, List.set_cons_zero, List.set_cons_succ, i64_w, i32_w]
          rfl
         refine pure_ (i := 4) (N := some 44) (v := ?_) (a' := ?_) #[true, true, true, true, true, true, false, false, true, false, false, true, false, false, true, false, false, false, false, false, false, false] rfl rfl (any_of HT_.out (by kernel_rfl)) (fun _ _ _ h => h) (Or.inl ⟨by rfl, ?_⟩) ?_ ?_
         rotate_left
         ·intro w'
          go_simp
          with_reducible rfl
         rotate_left
         ·simp only [Act.put, List.setIfInBounds_toArray, List.set_cons_zero, List.set_cons_succ, i64_w, i32_w]
          rfl
         refine take_ (i := 9) (N := some 49) (v := ?_) (a' := ?_) #[true, true, true, true, true, true, false, false, true, true, false, true, false, false, true, false, false, false, false, false, false, false] rfl rfl (take_ofW HT_.out HW_.out (by kernel_rfl)) (fun _ _ _ h => h) (Or.inl ⟨by rfl, ?_⟩) hHeld ?_ ?_
         rotate_left
         ·rintro w' ⟨s0, s1, s2, s3, s4, s5⟩
          go_simp
          with_reducible rfl
         rotate_left
         ·simp only [Act.put, List.setIfInBounds_toArray, List.set_cons_zero, List.set_cons_succ, i64_w, i32_w]
          rfl
         refine pure_ (i := 10) (N := some 50) (v := ?_) (a' := ?_) #[true, true, true, true, true, true, false, false, true, true, true, true, false, false, true, false, false, false, false, false, false, false] rfl rfl (any_of HT_.out (by kernel_rfl)) (fun _ _ _ h => h) (Or.inl ⟨by rfl, ?_⟩) ?_ ?_
         rotate_left
         ·intro w'
          go_simp
          with_reducible rfl
         rotate_left
         ·simp only [Act.put, List.setIfInBounds_toArray, List.set_cons_zero, List.set_cons_succ, i64_w, i32_w]
          rfl
         refine take_ (i := 15) (N := some 55) (v := ?_) (a' := ?_) #[true, true, true, true, true, true, false, false, true, true, true, true, false, false, true, true, false, false, false, false, false, false] rfl rfl (take_ofW HT_.out HW_.out (by kernel_rfl)) (fun _ _ _ h => h) (Or.inl ⟨by rfl, ?_⟩) hHeld ?_ ?_
         rotate_left
         ·rintro w' ⟨s0, s1, s2, s3, s4, s5⟩
          go_simp
          with_reducible rfl
         rotate_left
         ·simp only [Act.put, List.setIfInBounds_toArray, List.set_cons_zero, List.set_cons_succ, i64_w, i32_w]
          rfl
         refine one_ (i := 6) (N := some 46) #[true, true, true, true, true, true, true, false, true, true, true, true, false, false, true, true, false, false, false, false, false, false] rfl rfl (one_of HT_.out (by kernel_rfl)) (by decide) (fun K hK => ?_)
         refine goes_ Tryd.func6 (by kernel_rfl) rfl #[.int .i64 (wrap64 (((rd_T34 l0_2 x8_1).f0) - 1)), .int .i64 a1] (by rfl) rfl rfl (by (try simp only [List.map_toArray, List.map_cons, List.map_nil]); first | done | rfl | (simp only [List.length_drop, List.length_take]; rfl)) ?_
         with_reducible refine (silversidetop_mod.calls (wrap64 (((rd_T34 l0_2 x8_1).f0) - 1)) a1 t108 _ A25.out).mono ?_
         rintro e w' ⟨rfl, ⟨nd, rfl⟩⟩
         refine ⟨_, rfl, ?_⟩
         refine hK.out _ _ ⟨(blk_cell BK105.out 0).trans rfl, (blk_cell BK105.out 1).trans rfl, (blk_cell BK105.out 2).trans rfl, (blk_cell BK107.out 0).trans rfl, (blk_cell BK107.out 1).trans rfl, (blk_cell BK107.out 2).trans rfl⟩ (fun hHeld => ?_)
         clear hK K
         refine norm_ (a' := ?_) ?_ ?_
         rotate_left
         ·show Act.put _ (some 46) _ = _
          simp only [Act.put, List.setIfInBounds_toArray, List.set_cons_zero, List.set_cons_succ, i64_w, i32_w]
          rfl
         refine pure_ (i := 7) (N := some 47) (v := ?_) (a' := ?_) #[true, true, true, true, true, true, true, true, true, true, true, true, false, false, true, true, false, false, false, false, false, false] rfl rfl (any_of HT_.out (by kernel_rfl)) (fun _ _ _ h => h) (Or.inl ⟨by rfl, ?_⟩) ?_ ?_
         rotate_left
         ·intro w'
          go_simp
          with_reducible rfl
         rotate_left
         ·simp only [Act.put, List.setIfInBounds_toArray, List.set_cons_zero, List.set_cons_succ, i64_w, i32_w]
          rfl
         refine one_ (i := 12) (N := some 52) #[true, true, true, true, true, true, true, true, true, true, true, true, true, false, true, true, false, false, false, false, false, false] rfl rfl (one_of HT_.out (by kernel_rfl)) (by decide) (fun K hK => ?_)
         refine goes_ Tryd.func6 (by kernel_rfl) rfl #[.int .i64 (wrap64 (((rd_T34 l0_2 x8_1).f1) - 1)), .int .i64 a1] (by rfl) rfl rfl (by (try simp only [List.map_toArray, List.map_cons, List.map_nil]); first | done | rfl | (simp only [List.length_drop, List.length_take]; rfl)) ?_
         with_reducible refine (silversidetop_mod.calls (wrap64 (((rd_T34 l0_2 x8_1).f1) - 1)) a1 t109 _ A26.out).mono ?_
         rintro e w' ⟨rfl, ⟨nd, rfl⟩⟩
         refine ⟨_, rfl, ?_⟩
         refine hK.out _ _ ⟨(blk_cell BK105.out 0).trans rfl, (blk_cell BK105.out 1).trans rfl, (blk_cell BK105.out 2).trans rfl, (blk_cell BK107.out 0).trans rfl, (blk_cell BK107.out 1).trans rfl, (blk_cell BK107.out 2).trans rfl⟩ (fun hHeld => ?_)
         clear hK K
         refine norm_ (a' := ?_) ?_ ?_
         rotate_left
         ·show Act.put _ (some 52) _ = _
          simp only [Act.put, List.setIfInBounds_toArray, List.set_cons_zero, List.set_cons_succ, i64_w, i32_w]
          rfl
         refine pure_ (i := 13) (N := some 53) (v := ?_) (a' := ?_) #[true, true, true, true, true, true, true, true, true, true, true, true, true, true, true, true, false, false, false, false, false, false] rfl rfl (any_of HT_.out (by kernel_rfl)) (fun _ _ _ h => h) (Or.inl ⟨by rfl, ?_⟩) ?_ ?_
         rotate_left
         ·intro w'
          go_simp
          with_reducible rfl
         rotate_left
         ·simp only [Act.put, List.setIfInBounds_toArray, List.set_cons_zero, List.set_cons_succ, i64_w, i32_w]
          rfl
         refine one_ (i := 16) (N := some 56) #[true, true, true, true, true, true, true, true, true, true, true, true, true, true, true, true, true, false, false, false, false, false] rfl rfl (one_of HT_.out (by kernel_rfl)) (by decide) (fun K hK => ?_)
         refine goes_ Tryd.func6 (by kernel_rfl) rfl #[.int .i64 ((rd_T34 l0_2 x8_1).f2), .int .i64 200] (by rfl) rfl rfl (by (try simp only [List.map_toArray, List.map_cons, List.map_nil]); first | done | rfl | (simp only [List.length_drop, List.length_take]; rfl)) ?_
         with_reducible refine (silversidetop_mod.calls ((rd_T34 l0_2 x8_1).f2) 200 t110 _ A27.out).mono ?_
         rintro e w' ⟨rfl, ⟨nd, rfl⟩⟩
         refine ⟨_, rfl, ?_⟩
         refine hK.out _ _ ⟨(blk_cell BK105.out 0).trans rfl, (blk_cell BK105.out 1).trans rfl, (blk_cell BK105.out 2).trans rfl, (blk_cell BK107.out 0).trans rfl, (blk_cell BK107.out 1).trans rfl, (blk_cell BK107.out 2).trans rfl⟩ (fun hHeld => ?_)
         clear hK K
         refine norm_ (a' := ?_) ?_ ?_
         rotate_left
         ·show Act.put _ (some 56) _ = _
          simp only [Act.put, List.setIfInBounds_toArray, List.set_cons_zero, List.set_cons_succ, i64_w, i32_w]
          rfl
         refine pure_ (i := 17) (N := some 57) (v := ?_) (a' := ?_) #[true, true, true, true, true, true, true, true, true, true, true, true, true, true, true, true, true, true, false, false, false, false] rfl rfl (any_of HT_.out (by kernel_rfl)) (fun _ _ _ h => h) (Or.inl ⟨by rfl, ?_⟩) ?_ ?_
         rotate_left
         ·intro w'
          go_simp
          with_reducible rfl
         rotate_left
         ·simp only [Act.put, List.setIfInBounds_toArray, List.set_cons_zero, List.set_cons_succ, i64_w, i32_w]
          rfl
         refine one_ (i := 18) (N := some 58) #[true, true, true, true, true, true, true, true, true, true, true, true, true, true, true, true, true, true, true, false, false, false] rfl rfl (one_of HT_.out (by kernel_rfl)) (by decide) (fun K hK => ?_)
         refine value_ (w1 := ?_) (v := ?_) (by rfl) rfl ?_ ?_
         rotate_left 2
         ·go_simp
          constructor
          ·rfl
          ·rfl
         refine hK.out _ _ ⟨(blk_cell (blk_alloc BK105.out _) 0).trans rfl, (blk_cell (blk_alloc BK105.out _) 1).trans rfl, (blk_cell (blk_alloc BK105.out _) 2).trans rfl, (blk_cell (blk_alloc BK107.out _) 0).trans rfl, (blk_cell (blk_alloc BK107.out _) 1).trans rfl, (blk_cell (blk_alloc BK107.out _) 2).trans rfl⟩ (fun hHeld => ?_)
         clear hK K
         refine norm_ (a' := ?_) ?_ ?_
         rotate_left
         ·show Act.put _ (some 58) _ = _
          simp only [Act.put, List.setIfInBounds_toArray, List.set_cons_zero, List.set_cons_succ, i64_w, i32_w]
          rfl
         refine one_ (i := 19) (N := some 59) #[true, true, true, true, true, true, true, true, true, true, true, true, true, true, true, true, true, true, true, true, false, false] rfl rfl (one_of HT_.out (by kernel_rfl)) (by decide) (fun K hK => ?_)
         refine Kd.R_append_step k34 (w0 := w) w.heap.size (by rfl) (.tmp 41) (.tmp 58) 22 34 (.agg #[(.int .i64 0), (.int .i64 0), (.int .i64 0)]) 24 rfl Tryd.underlying22 info34 rfl (by decide) (by omega) u106002 x106002_1 (⟨wrap64 (1 + t108), wrap64 (1 + t109), t110⟩ : S34) [.int .i64 (wrap64 (1 + t108)), .int .i64 (wrap64 (1 + t109)), .int .i64 t110] (fun k_ => k_ ≠ gb107) (fun _ => False) rfl rfl ?aP (fun _ hk => hk.elim) ?aF ?aO ?aB ?aS ?aL ?_
         (case aP => exact k34_mkM _ _ _ (⟨wrap64 (1 + t108), wrap64 (1 + t109), t110⟩ : S34))
         (case aB => exact (by repeat (first | (with_reducible first | exact HB.out | apply below_alloc | apply pw_below_drewN | apply below_drew1 | refine below_set ?_ GE101.out | refine below_set ?_ GE102.out | refine below_set ?_ GE105.out | refine below_set ?_ GE107.out) | exact HB.out)))
         (case aF => exact (fun k_ hk => Kd.freshB (g := gb107) (o := .cells #[.int .i64 ((rd_T34 l0_2 x8_1).f0), .int .i64 ((rd_T34 l0_2 x8_1).f1), .int .i64 ((rd_T34 l0_2 x8_1).f2)] 34 (0, 0)) (by (with_reducible repeat (first | refine blk_drewN ?_ _ | refine blk_drew ?_ | refine blk_alloc ?_ _)); exact BK107.out) k_ hk))
         (case aO => exact (by (with_reducible repeat (first | apply Kd.R_alloc | apply Kd.R_drewN | apply Kd.R_drew)); exact HO_106002.out))
         (case aS => exact (below_size (by repeat (first | (with_reducible first | exact HB.out | apply below_alloc | apply pw_below_drewN | apply below_drew1 | refine below_set ?_ GE101.out | refine below_set ?_ GE102.out | refine below_set ?_ GE105.out | refine below_set ?_ GE107.out) | exact HB.out))))
         (case aL => have := LMc28.out; omega)
         intro v112 w39 ho hb hg hat
         rw [← Ny111.out] at ho
         have n0_ := Aside0.mk (blk_grown (g := gb101) (o := .cells #[.int .i64 a0_0, .int .i64 a0_1, .slice (some ad106) l0_2.length c0_2] 24 (0, 0)) (by (with_reducible repeat (first | refine blk_drewN ?_ _ | refine blk_drew ?_ | refine blk_alloc ?_ _)); exact BK101.out) hg (Kd.R_ne HO_106002.out BK101.out (by decide)))
         have n1_ := Aside0.mk (blk_grown (g := gb102) (o := .cells #[.int .i64 0, .int .i64 0, .slice none 0 0] 24 (0, 0)) (by (with_reducible repeat (first | refine blk_drewN ?_ _ | refine blk_drew ?_ | refine blk_alloc ?_ _)); exact BK102.out) hg (Kd.R_ne HO_106002.out BK102.out (by decide)))
         have n2_ := Aside0.mk (blk_grown (g := gb105) (o := .cells #[.int .i64 (wrap64 (1 + t103)), .int .i64 (wrap64 (1 + t104)), u106002] 24 (0, 0)) (by (with_reducible repeat (first | refine blk_drewN ?_ _ | refine blk_drew ?_ | refine blk_alloc ?_ _)); exact BK105.out) hg (Kd.R_ne HO_106002.out BK105.out (by decide)))
         have n3_ := Aside0.mk (blk_grown (g := gb107) (o := .cells #[.int .i64 ((rd_T34 l0_2 x8_1).f0), .int .i64 ((rd_T34 l0_2 x8_1).f1), .int .i64 ((rd_T34 l0_2 x8_1).f2)] 34 (0, 0)) (by (with_reducible repeat (first | refine blk_drewN ?_ _ | refine blk_drew ?_ | refine blk_alloc ?_ _)); exact BK107.out) hg (Kd.R_away HO_106002.out (fun _ hk => hk)))
         have n4_ := Aside0.mk (hb)
         have n5_ := Aside0.mk (ho)
         clear BK101
         clear BK102
         clear BK105
         clear BK107
         clear HB
         clear HO_106002
         have BK101 := n0_
         have BK102 := n1_
         have BK105 := n2_
         have BK107 := n3_
         have HB := n4_
         have HO113 := n5_
         clear n0_ n1_ n2_ n3_ n4_ n5_
         clear ho hb hg hat
         obtain ⟨Ao40, co40, eo40⟩ := Kd.R_slice HO113.out
         (first | subst eo40 | (injection eo40 with f1_ f2_ f3_; have f4_ := f1_.symm; have f5_ := f3_.symm; clear f1_ f2_ f3_; subst f4_; subst f5_))
         refine hK.out _ _ ⟨(blk_cell BK105.out 0).trans rfl, (blk_cell BK105.out 1).trans rfl, (blk_cell BK105.out 2).trans rfl, (blk_cell BK107.out 0).trans rfl, (blk_cell BK107.out 1).trans rfl, (blk_cell BK107.out 2).trans rfl⟩ (fun hHeld => ?_)
         clear hK K
         refine norm_ (a' := ?_) ?_ ?_
         rotate_left
         ·show Act.put _ (some 59) _ = _
          simp only [Act.put, List.setIfInBounds_toArray, List.set_cons_zero, List.set_cons_succ, i64_w, i32_w]
          rfl
         refine pure_ (i := 20) (N := some 60) (v := ?_) (a' := ?_) #[true, true, true, true, true, true, true, true, true, true, true, true, true, true, true, true, true, true, true, true, true, false] rfl rfl (any_of HT_.out (by kernel_rfl)) (fun _ _ _ h => h) (Or.inl ⟨by rfl, ?_⟩) ?_ ?_
         rotate_left
         ·intro w'
          go_simp
          with_reducible rfl
         rotate_left
         ·simp only [Act.put, List.setIfInBounds_toArray, List.set_cons_zero, List.set_cons_succ, i64_w, i32_w]
          rfl
         refine last_ (i := 21) (N := none) #[true, true, true, true, true, true, true, true, true, true, true, true, true, true, true, true, true, true, true, true, true, true] rfl rfl (one_of HT_.out (by kernel_rfl)) (by decide) (fun K hK => ?_)
         have hs41 : w39.cell? ⟨gb105, 2, none⟩ = some (u106002) := (blk_cell BK105.out 2).trans rfl
         have hfs41 := blk_frozen BK105.out 2
         have hns41_0 := NB101_105.out
         have hns41_1 := NB102_105.out
         have hns41_3 := NB107_105.out
         have hms41_0 := NB105_101.out
         have hms41_1 := NB105_102.out
         have hms41_3 := NB105_107.out
         refine skip_ (w1 := ?_) (by rfl) rfl ?_ ?_
         rotate_left
         ·go_simp
          rfl
         refine hK.out _ _ ?_
         clear hK K
         refine done_ (done_of HT_.out (by kernel_rfl)) ?_
         try go_wp2
         go_roundg kj13
         case measure => have := HK1.out; have := HJ13.out; omega
         case rel => exact ⟨(wrap64 (x8_1 + 1)), (y111), (.slice Ao40 y111.length co40), (by first | rfl | (simp; done) | (simp [*]; done)), H', ⟨by have := HK1.out; have := HJ13.out; omega⟩, ⟨by (with_reducible repeat (first | apply Kd.R_alloc | apply Kd.R_drewN | apply Kd.R_drew)); exact Kd.R_mono (Kd.R_far (p := ⟨gb105, 2, none⟩) (Kd.R_types HO113.out BK105.out (by decide)) (fun _ hk => hk.2) (.slice Ao40 y111.length co40)) (fun _ hk => trivial)⟩, ⟨by (with_reducible repeat (first | refine blk_drewN ?_ _ | refine blk_drew ?_ | refine blk_alloc ?_ _)); refine blk_far ?_ NB101_105.out _; (with_reducible repeat (first | refine blk_drewN ?_ _ | refine blk_drew ?_ | refine blk_alloc ?_ _)); exact BK101.out⟩, ⟨by (with_reducible repeat (first | refine blk_drewN ?_ _ | refine blk_drew ?_ | refine blk_alloc ?_ _)); refine blk_far ?_ NB102_105.out _; (with_reducible repeat (first | refine blk_drewN ?_ _ | refine blk_drew ?_ | refine blk_alloc ?_ _)); exact BK102.out⟩, ⟨by (with_reducible repeat (first | refine blk_drewN ?_ _ | refine blk_drew ?_ | refine blk_alloc ?_ _)); refine blk_put (cs := #[.int .i64 (wrap64 (1 + t103)), .int .i64 (wrap64 (1 + t104)), u106002]) ?_ 2 _ rfl; (with_reducible repeat (first | refine blk_drewN ?_ _ | refine blk_drew ?_ | refine blk_alloc ?_ _)); exact BK105.out⟩, ⟨by repeat (first | (with_reducible first | exact HB.out | apply below_alloc | apply pw_below_drewN | apply below_drew1 | refine below_set ?_ GE101.out | refine below_set ?_ GE102.out | refine below_set ?_ GE105.out | refine below_set ?_ GE107.out) | exact HB.out)⟩⟩
        ·rw [if_neg c28] at H
         exact absurd H (by simp)
       ·rw [if_neg c24] at H
        exact absurd H (by simp)
      ·rw [if_neg c23] at H
       exact absurd H (by simp)
     ·replace c22 := Bool.eq_false_iff.mpr c22
      subst c22
      have H1 : (some ((wrap64 (1 + t103)), (wrap64 (1 + t104)), x106002_1)) = some (r1, r2, r3) := by rw [if_neg (show ¬ (false = true) by decide)] at H; exact H
      clear H
      have H := H1
      clear H1
      simp only [Option.some.injEq, Prod.mk.injEq] at H
      obtain ⟨rfl, rfl, rfl⟩ := H
      have hnb42 := NB105_101.out
      have hnc42 := NB101_105.out
      have hnb43 := NB105_102.out
      have hnc43 := NB102_105.out
      have hcz44_0 : wc.cell? ⟨gb105, 0, none⟩ = some (.int .i64 (wrap64 (1 + t103))) := (blk_cell BK105.out 0).trans rfl
      have hcz44_1 : wc.cell? ⟨gb105, 1, none⟩ = some (.int .i64 (wrap64 (1 + t104))) := (blk_cell BK105.out 1).trans rfl
      have hcz44_2 : wc.cell? ⟨gb105, 2, none⟩ = some (u106002) := (blk_cell BK105.out 2).trans rfl
      have hfz44_0 := blk_frozen BK105.out 0
      have hfz44_1 := blk_frozen BK105.out 1
      have hfz44_2 := blk_frozen BK105.out 2
      have hnb45 := NB102_101.out
      have hnc45 := NB101_102.out
      have hcz46_0 : wc.cell? ⟨gb102, 0, none⟩ = some (.int .i64 0) := (blk_cell BK102.out 0).trans rfl
      have hcz46_1 : wc.cell? ⟨gb102, 1, none⟩ = some (.int .i64 0) := (blk_cell BK102.out 1).trans rfl
      have hcz46_2 : wc.cell? ⟨gb102, 2, none⟩ = some (.slice none 0 0) := (blk_cell BK102.out 2).trans rfl
      have hfz46_0 := blk_frozen BK102.out 0
      have hfz46_1 := blk_frozen BK102.out 1
      have hfz46_2 := blk_frozen BK102.out 2
      obtain ⟨Ao47, co47, eo47⟩ := Kd.R_slice HO_106002.out
      subst eo47
      go_wp2
      refine bodyPost_ret (results_cell_row rfl _ _ gb102 24 #[.int .i64 (wrap64 (1 + t103)), .int .i64 (wrap64 (1 + t104)), .slice Ao47 x106002_1.length co47] (0, 0) _ rfl (by (with_reducible repeat (first | refine blk_drewN ?_ _ | refine blk_drew ?_ | refine blk_alloc ?_ _)); refine blk_put (cs := #[.int .i64 (wrap64 (1 + t103)), .int .i64 (wrap64 (1 + t104)), .slice none 0 0]) ?_ 2 _ rfl; (with_reducible repeat (first | refine blk_drewN ?_ _ | refine blk_drew ?_ | refine blk_alloc ?_ _)); refine blk_put (cs := #[.int .i64 (wrap64 (1 + t103)), .int .i64 0, .slice none 0 0]) ?_ 1 _ rfl; (with_reducible repeat (first | refine blk_drewN ?_ _ | refine blk_drew ?_ | refine blk_alloc ?_ _)); refine blk_put (cs := #[.int .i64 0, .int .i64 0, .slice none 0 0]) ?_ 0 _ rfl; (with_reducible repeat (first | refine blk_drewN ?_ _ | refine blk_drew ?_ | refine blk_alloc ?_ _)); exact BK102.out) Tryd.underlying24 rfl (by kernel_rfl)) rfl ?_
      exact ⟨_, by first | rfl | (simp [errW_none, errW_some] <;> rfl) | (simp [*, errW_none, errW_some] <;> rfl), by (with_reducible repeat (first | apply Kd.R_alloc | apply Kd.R_drewN | apply Kd.R_drew)); exact Kd.R_mono (Kd.R_far (p := ⟨gb102, 2, none⟩) (Kd.R_far (p := ⟨gb102, 1, none⟩) (Kd.R_far (p := ⟨gb102, 0, none⟩) (Kd.R_types HO_106002.out BK102.out (by decide)) (fun _ hk => hk.2) (.int .i64 (wrap64 (1 + t103)))) (fun _ hk => hk.2) (.int .i64 (wrap64 (1 + t104)))) (fun _ hk => hk.2) (.slice Ao47 x106002_1.length co47)) (fun _ hk => trivial), by repeat (first | (with_reducible first | exact HB.out | apply below_alloc | apply pw_below_drewN | apply below_drew1 | refine below_set ?_ GE101.out | refine below_set ?_ GE102.out | refine below_set ?_ GE105.out) | exact HB.out)⟩
end Go.Proofs.YtiioklboaookiaaDoor.Q
namespace Go.Proofs.YtiioklboaookiaaDoor.Q
open Go.RowKit Go.Proofs.YtiioklboaookiaaDoorW.PrintWords Go.Proofs.YtiioklboaookiaaDoorW.PrintLast Go.Proofs.YtiioklboaookiaaDoor.Hand Go.Proofs.YtiioklboaookiaaDoorW.PrintMore
attribute [local go_sem] max2_int min2_int max_two min_two max_three min_three max_four min_four
set_option linter.unusedVariables false
set_option linter.unusedSimpArgs false
def carve_within.f (a0 : Int) (a1 : Int) (a2 : Int) : Option (Bool) := if a0 ≥ a1 then (some (decide (a0 ≤ a2))) else (some false)
set_option maxHeartbeats 8000000 in
set_option maxRecDepth 100000 in
theorem carve_within.calls (a0 : Int) (a1 : Int) (a2 : Int) (r : Bool) (w : World) (h : carve_within.f a0 a1 a2 = some r) :
  Calls Tryd.prog 33 #[.int .i64 a0, .int .i64 a1, .int .i64 a2] w fun e w' => e = .returned (.bool r) ∧ Drawn0 w w' := by
 have H : (if a0 ≥ a1 then (some (decide (a0 ≤ a2))) else (some false)) = some r := h
 clear h
 by_cases c4 : a0 ≥ a1
 ·rw [if_pos c4] at H
  have c4b0 : decide (a1 ≤ a0) = true := decide_eq_true c4
  clear c4
  obtain rfl := Option.some.inj H
  go_enter Tryd.func33, Tryd.ntmps33
  go_wp2
  go_ret
  exact ⟨by first | rfl | (simp; done) | (simp [*]; done), by repeat (first | exact Drawn0.refl _ | apply Drawn0.step)⟩
 ·rw [if_neg c4] at H
  have c4b0 : decide (a1 ≤ a0) = false := decide_eq_false c4
  clear c4
  obtain rfl := Option.some.inj H
  go_enter Tryd.func33, Tryd.ntmps33
  go_wp2
  go_ret
  exact ⟨by first | rfl | (simp; done) | (simp [*]; done), by repeat (first | exact Drawn0.refl _ | apply Drawn0.step)⟩
end Go.Proofs.YtiioklboaookiaaDoor.Q
