/- A part of the proof: what the law's row needs. -/
import Derived.Test.YtiioklboaookiaaGreatDoorProg
import Derived.Below
import Derived.Deep.Draws
import Derived.OwnWalk
import Derived.Tactics
import Derived.WalkKit
import Derived.KernelRfl
import Derived.RowKit3
import Derived.Deep.LoopGhost
import Derived.Deep.QuietTactic
import Derived.BigQuiet
import Derived.WideLaws
import Derived.Laws.BitsLemmas
import Derived.RowKit
import Derived.RegionTactic
import Derived.ChangeAlike
import Derived.Deep.RegionWith
import Derived.IntWalk
import Derived.Deep.AppendLies
import Derived.Maps.AppendAt
import Derived.Laws.BytesArg
import Derived.Laws.MakeOwn
import Derived.Laws.OwnMore
import Derived.Deep.OwnRows
import Derived.Lib.ConvBytes
import Derived.Laws.Slices
import Derived.Deep.DeepCutAuto
import Derived.Deep.CutBlock
import Derived.Deep.RegionHeld3
import Derived.Laws.Rows
import Derived.Lib.AppendStr
import Derived.ArgAppend
import Derived.Laws.IdiomCopy
import Derived.OrdersHeld
import Derived.Lib.BufferWrite
import Derived.Laws.CopyOwn
import Derived.Maps.Own
import Derived.Maps.OwnOps
import Derived.Maps.OwnSet
import Derived.Maps.Views
import Derived.Test.YtiioklboaookiaaGreatDoorV1
namespace Go.Proofs.YtiioklboaookiaaGreatDoor.Rs
def xt (a : Nat) : Nat := if 2 * a > 255 then (2 * a) ^^^ 285 else 2 * a
def pw : Nat → Nat
 | 0 => 1
 | n + 1 => xt (pw n)
def lgFrom : Nat → Nat → Nat → Nat → Nat
 | 0, _, _, _ => 0
 | k + 1, i, x, a => if x = a then i else lgFrom k (i + 1) (xt x) a
def lg (a : Nat) : Nat := lgFrom 255 0 1 a
def mulN (a b : Nat) : Nat := if a = 0 ∨ b = 0 then 0 else pw (lg a + lg b)
def invN (a : Nat) : Nat := pw (255 - lg a)
theorem lg_pw : ∀ n, n < 255 → lg (pw n) = n := by decide +kernel
theorem pw_bd0 : ∀ n, n < 255 → pw n < 256 ∧ pw n ≠ 0 := by decide +kernel
theorem pw_lg : ∀ a, a < 256 → a ≠ 0 → lg a < 255 ∧ pw (lg a) = a := by decide +kernel
theorem pw_255 : pw 255 = 1 := by decide +kernel
theorem xt_bits : ∀ a, a < 256 → xt a = (2 * a) ^^^ (285 * (a / 128)) ∧ xt a < 256 := by decide +kernel
theorem xt_xor (a b : Nat) (ha : a < 256) (hb : b < 256) : xt (a ^^^ b) = xt a ^^^ xt b := by
 have hab : a ^^^ b < 256 := Nat.xor_lt_two_pow (n := 8) ha hb
 rw [(xt_bits _ hab).1, (xt_bits _ ha).1, (xt_bits _ hb).1]
 have h1 : 2 * (a ^^^ b) = (2 * a) ^^^ (2 * b) := by
  have := Nat.shiftLeft_xor_distrib (a := a) (b := b) (i := 1)
  simp only [Nat.shiftLeft_eq, Nat.pow_one] at this
  rw [Nat.mul_comm 2, Nat.mul_comm 2, Nat.mul_comm 2]; exact this
 have h2 : (a ^^^ b) / 128 = (a / 128) ^^^ (b / 128) := by
  have := Nat.shiftRight_xor_distrib (a := a) (b := b) (i := 7)
  simp only [Nat.shiftRight_eq_div_pow] at this; simpa using this
 have h3 : 285 * ((a / 128) ^^^ (b / 128)) = (285 * (a / 128)) ^^^ (285 * (b / 128)) := by
  have ha1 : a / 128 < 2 := by omega
  have hb1 : b / 128 < 2 := by omega
  generalize a / 128 = u at *; generalize b / 128 = v at *
  have : u = 0 ∨ u = 1 := by omega
  have : v = 0 ∨ v = 1 := by omega
  rcases ‹u = 0 ∨ u = 1› with rfl | rfl <;> rcases ‹v = 0 ∨ v = 1› with rfl | rfl <;> decide
 rw [h1, h2, h3]
 ac_rfl
theorem pw_add (n : Nat) : pw (n + 255) = pw n := by
 induction n with
 | zero => rw [Nat.zero_add, pw_255]; rfl
 | succ n ih =>
  have h : pw (n + 255 + 1) = xt (pw (n + 255)) := rfl
  rw [show n + 1 + 255 = n + 255 + 1 from by omega, h, ih]; rfl
theorem pw_mod (n : Nat) : pw n = pw (n % 255) := by
 induction n using Nat.strongRecOn with
 | ind n ih =>
  by_cases h : n < 255
  ·rw [Nat.mod_eq_of_lt h]
  ·obtain ⟨m, rfl⟩ : ∃ m, n = m + 255 := ⟨n - 255, by omega⟩
   rw [pw_add, ih m (by omega), Nat.add_mod_right]
theorem pw_bd (n : Nat) : pw n < 256 ∧ pw n ≠ 0 := by rw [pw_mod]; exact pw_bd0 _ (Nat.mod_lt _ (by omega))
theorem lg_pw' (n : Nat) : lg (pw n) = n % 255 := by rw [pw_mod]; exact lg_pw _ (Nat.mod_lt _ (by omega))
theorem pw_cong {a b : Nat} (h : a % 255 = b % 255) : pw a = pw b := by rw [pw_mod a, pw_mod b, h]
theorem mulN_bd (a b : Nat) : mulN a b < 256 := by unfold mulN; split; omega; exact (pw_bd _).1
theorem mulN_comm (a b : Nat) : mulN a b = mulN b a := by unfold mulN; rw [Nat.add_comm]; simp only [or_comm]
theorem mulN_zero (a : Nat) : mulN a 0 = 0 := by simp [mulN]
theorem zero_mulN (a : Nat) : mulN 0 a = 0 := by simp [mulN]
theorem mulN_pw (m n : Nat) : mulN (pw m) (pw n) = pw (m + n) := by
 unfold mulN; rw [if_neg (by have := (pw_bd m).2; have := (pw_bd n).2; omega), lg_pw', lg_pw']; apply pw_cong; omega
theorem ex_pw {a : Nat} (h : a < 256) (h0 : a ≠ 0) : ∃ n, n < 255 ∧ a = pw n := ⟨lg a, (pw_lg a h h0).1, (pw_lg a h h0).2.symm⟩
theorem mulN_assoc (a b c : Nat) (ha : a < 256) (hb : b < 256) (hc : c < 256) : mulN (mulN a b) c = mulN a (mulN b c) := by
 by_cases a0 : a = 0
 ·subst a0; simp [zero_mulN]
 by_cases b0 : b = 0
 ·subst b0; simp [zero_mulN, mulN_zero]
 by_cases c0 : c = 0
 ·subst c0; simp [mulN_zero]
 obtain ⟨i, _, rfl⟩ := ex_pw ha a0
 obtain ⟨j, _, rfl⟩ := ex_pw hb b0
 obtain ⟨k, _, rfl⟩ := ex_pw hc c0
 simp only [mulN_pw, Nat.add_assoc]
theorem mulN_one (a : Nat) (ha : a < 256) : mulN a 1 = a := by
 by_cases a0 : a = 0
 ·subst a0; rfl
 obtain ⟨i, _, rfl⟩ := ex_pw ha a0
 exact mulN_pw i 0
theorem mulN_ne {a b : Nat} (ha : a ≠ 0) (hb : b ≠ 0) : mulN a b ≠ 0 := by unfold mulN; rw [if_neg (by omega)]; exact (pw_bd _).2
theorem mulN_inv (a : Nat) (ha : a < 256) (h0 : a ≠ 0) : mulN a (invN a) = 1 := by
 obtain ⟨i, hi, rfl⟩ := ex_pw ha h0
 unfold invN; rw [lg_pw _ hi, mulN_pw, show i + (255 - i) = 255 from by omega]; exact pw_255
theorem pw_mul (n b : Nat) (hb : b < 256) : mulN (pw (n + 1)) b = xt (mulN (pw n) b) := by
 by_cases b0 : b = 0
 ·subst b0; simp [mulN_zero]; rfl
 obtain ⟨j, _, rfl⟩ := ex_pw hb b0
 rw [mulN_pw, mulN_pw, show n + 1 + j = (n + j) + 1 from by omega]; rfl
theorem mulN_pw_xor (n b c : Nat) (hb : b < 256) (hc : c < 256) : mulN (pw n) (b ^^^ c) = mulN (pw n) b ^^^ mulN (pw n) c := by
 have hbc : b ^^^ c < 256 := Nat.xor_lt_two_pow (n := 8) hb hc
 induction n with
 | zero => show mulN 1 _ = mulN 1 _ ^^^ mulN 1 _; rw [mulN_comm, mulN_one _ hbc, mulN_comm 1 b, mulN_one _ hb, mulN_comm 1 c, mulN_one _ hc]
 | succ n ih => rw [pw_mul _ _ hbc, pw_mul _ _ hb, pw_mul _ _ hc, ih, xt_xor _ _ (mulN_bd _ _) (mulN_bd _ _)]
theorem mulN_xor (a b c : Nat) (ha : a < 256) (hb : b < 256) (hc : c < 256) : mulN a (b ^^^ c) = mulN a b ^^^ mulN a c := by
 by_cases a0 : a = 0
 ·subst a0; simp [zero_mulN]
 obtain ⟨i, _, rfl⟩ := ex_pw ha a0
 exact mulN_pw_xor i b c hb hc
def GF := Fin 256
namespace GF
instance : DecidableEq GF := inferInstanceAs (DecidableEq (Fin 256))
def mk (n : Nat) (h : n < 256) : GF := Fin.mk n h
def v (a : GF) : Nat := Fin.val a
theorem v_lt (a : GF) : a.v < 256 := Fin.isLt a
theorem v_mk (n : Nat) (h : n < 256) : (mk n h).v = n := rfl
theorem ext {a b : GF} (h : a.v = b.v) : a = b := Fin.ext h
instance : Zero GF := ⟨mk 0 (by omega)⟩
instance : One GF := ⟨mk 1 (by omega)⟩
instance : Add GF := ⟨fun a b => mk (a.v ^^^ b.v) (Nat.xor_lt_two_pow (n := 8) a.v_lt b.v_lt)⟩
instance : Mul GF := ⟨fun a b => mk (mulN a.v b.v) (mulN_bd _ _)⟩
def inv (a : GF) : GF := mk (invN a.v) (pw_bd _).1
def al (n : Nat) : GF := mk (pw n) (pw_bd n).1
theorem v_zero : (0 : GF).v = 0 := rfl
theorem v_one : (1 : GF).v = 1 := rfl
theorem v_add (a b : GF) : (a + b).v = a.v ^^^ b.v := rfl
theorem v_mul (a b : GF) : (a * b).v = mulN a.v b.v := rfl
theorem add_comm (a b : GF) : a + b = b + a := ext (by simp only [v_add]; ac_rfl)
theorem add_assoc (a b c : GF) : a + b + c = a + (b + c) := ext (by simp only [v_add]; ac_rfl)
theorem add_zero (a : GF) : a + 0 = a := ext (by simp [v_add, v_zero])
theorem zero_add (a : GF) : 0 + a = a := ext (by simp [v_add, v_zero])
theorem add_self (a : GF) : a + a = 0 := ext (by simp [v_add, v_zero])
theorem mul_comm (a b : GF) : a * b = b * a := ext (mulN_comm _ _)
theorem mul_assoc (a b c : GF) : a * b * c = a * (b * c) := ext (mulN_assoc _ _ _ a.v_lt b.v_lt c.v_lt)
theorem mul_left_comm (a b c : GF) : a * (b * c) = b * (a * c) := by rw [← mul_assoc, mul_comm a b, mul_assoc]
theorem mul_one (a : GF) : a * 1 = a := ext (mulN_one _ a.v_lt)
theorem one_mul (a : GF) : 1 * a = a := by rw [mul_comm, mul_one]
theorem mul_zero (a : GF) : a * 0 = 0 := ext (mulN_zero a.v)
theorem zero_mul (a : GF) : 0 * a = 0 := ext (zero_mulN a.v)
theorem mul_add (a b c : GF) : a * (b + c) = a * b + a * c := ext (mulN_xor _ _ _ a.v_lt b.v_lt c.v_lt)
theorem add_mul (a b c : GF) : (a + b) * c = a * c + b * c := by rw [mul_comm, mul_add, mul_comm c a, mul_comm c b]
instance : Std.Commutative (α := GF) (· + ·) := ⟨add_comm⟩
instance : Std.Associative (α := GF) (· + ·) := ⟨add_assoc⟩
instance : Std.Commutative (α := GF) (· * ·) := ⟨mul_comm⟩
instance : Std.Associative (α := GF) (· * ·) := ⟨mul_assoc⟩
theorem ne_v {a : GF} (h : a ≠ 0) : a.v ≠ 0 := fun e => h (ext e)
theorem mul_ne {a b : GF} (ha : a ≠ 0) (hb : b ≠ 0) : a * b ≠ 0 := fun e => mulN_ne (ne_v ha) (ne_v hb) (by rw [← v_mul, e]; rfl)
theorem mul_inv {a : GF} (h : a ≠ 0) : a * a.inv = 1 := ext (mulN_inv _ a.v_lt (ne_v h))
theorem eq_zero_of_mul {a b : GF} (h : a * b = 0) (ha : a ≠ 0) : b = 0 := by
 by_cases hb : b = 0
 ·exact hb
 ·exact absurd h (mul_ne ha hb)
theorem add_eq_zero {a b : GF} (h : a + b = 0) : a = b := by
 have : a + b + b = b := by rw [h, zero_add]
 rwa [add_assoc, add_self, add_zero] at this
theorem add_ne {a b : GF} (h : a ≠ b) : a + b ≠ 0 := fun e => h (add_eq_zero e)
theorem one_ne : (1 : GF) ≠ 0 := fun e => by have := congrArg v e; simp [v_zero, v_one] at this
theorem al_ne (n : Nat) : al n ≠ 0 := fun e => (pw_bd n).2 (congrArg v e)
theorem al_add (m n : Nat) : al m * al n = al (m + n) := ext (mulN_pw m n)
theorem al_inj {m n : Nat} (hm : m < 255) (hn : n < 255) (h : al m = al n) : m = n := by
 have h1 : pw m = pw n := congrArg v h
 rw [← lg_pw m hm, ← lg_pw n hn, h1]
def pow (a : GF) : Nat → GF
 | 0 => 1
 | n + 1 => pow a n * a
end GF
end Go.Proofs.YtiioklboaookiaaGreatDoor.Rs
namespace Go.Proofs.YtiioklboaookiaaGreatDoor.Hand
open Go.RowKit
open Rs (xt pw lg pw_bd lg_pw pw_lg pw_mod)
set_option linter.unusedVariables false
set_option linter.unusedSimpArgs false
theorem hid {p : Prop} (h : p) : Hid p := h
theorem w64_in (n : Int) (h0 : -1000000 ≤ n) (h1 : n ≤ 1000000) : wrap64 n = n := by unfold wrap64; omega
theorem lg_bd : ∀ n, n < 256 → lg n < 255 := by decide +kernel
theorem lg_0 : lg 0 = 0 := by decide +kernel
def pv (i j : Nat) : Int := if j % 255 < i then pw j else 0
def lv (i j : Nat) : Int := if lg j < i ∧ j ≠ 0 then lg j else 0
def zcells : Array Value := (List.replicate 510 (Value.int .u8 0) ++ List.replicate 256 (Value.int .i64 0)).toArray
theorem zero84 (w : World) : Sem.run Tryz.prog (zeroValue 194) w = .ok (.agg zcells) w := by kernel_rfl
def Mid (b : Nat) (w : World) (i : Nat) : Prop :=
 (∀ j, j < 510 → w.cell? ⟨b, j, none⟩ = some (.int .u8 (pv i j))) ∧
 (∀ j, j < 256 → w.cell? ⟨b, 510 + j, none⟩ = some (.int .i64 (lv i j))) ∧
 (∀ j, w.frozen? ⟨b, j, none⟩ = false) ∧ b < w.heap.size
def IsField (w : World) (b : Nat) : Prop :=
 (∀ j, j < 510 → w.cell? ⟨b, j, none⟩ = some (.int .u8 (pw j))) ∧
 (∀ j, j < 256 → w.cell? ⟨b, 510 + j, none⟩ = some (.int .i64 (lg j)))
theorem zcells_lo (j : Nat) (h : j < 510) : zcells[j]? = some (.int .u8 0) := by
 unfold zcells; rw [List.getElem?_toArray, List.getElem?_append_left (by rw [List.length_replicate]; exact h), List.getElem?_replicate, if_pos h]
theorem zcells_hi (j : Nat) (h : j < 256) : zcells[510 + j]? = some (.int .i64 0) := by
 unfold zcells; rw [List.getElem?_toArray, List.getElem?_append_right (by rw [List.length_replicate]; omega), List.length_replicate, Nat.add_sub_cancel_left, List.getElem?_replicate, if_pos h]
theorem mid_start (w : World) : Mid w.heap.size (w.alloc (.cells zcells 194)) 0 := by
 refine ⟨fun j hj => ?_, fun j hj => ?_, fun j => by simp, by simp⟩
 ·rw [World.cell?_alloc_new, zcells_lo j hj]; simp [pv]
 ·rw [World.cell?_alloc_new, zcells_hi j hj]; simp [lv]
theorem mid_next {b i : Nat} {w : World} (h : Mid b w i) (hi : i < 255) :
  Mid b (((w.setCell ⟨b, i, none⟩ (.int .u8 (pw i))).setCell ⟨b, i + 255, none⟩ (.int .u8 (pw i))).setCell ⟨b, 510 + pw i, none⟩ (.int .i64 i)).drew (i + 1) := by
 obtain ⟨h1, h2, h3, h4⟩ := h
 have hp := pw_bd i
 have hlg : lg (pw i) = i := lg_pw i hi
 have ne : ∀ {j k : Nat}, j ≠ k → (⟨b, j, none⟩ : Addr) ≠ ⟨b, k, none⟩ := fun e h => e (by injection h)
 refine ⟨fun j hj => ?_, fun j hj => ?_, fun j => by simp [h3], by simpa using h4⟩
 ·rw [World.cell?_drew, World.cell?_setCell_other _ _ _ _ (ne (by omega))]
  by_cases e2 : j = i + 255
  ·subst e2
   rw [World.cell?_setCell_same _ _ _ (u := .int .u8 (pv i (i + 255))) (by rw [World.cell?_setCell_other _ _ _ _ (ne (by omega))]; exact h1 _ (by omega))]
   unfold pv; rw [if_pos (by omega), pw_mod (i + 255), pw_mod i]; simp
  ·rw [World.cell?_setCell_other _ _ _ _ (ne (Ne.symm e2))]
   by_cases e1 : j = i
   ·subst e1
    rw [World.cell?_setCell_same _ _ _ (h1 _ (by omega))]
    unfold pv; rw [if_pos (by omega)]
   ·rw [World.cell?_setCell_other _ _ _ _ (ne (Ne.symm e1)), h1 j hj]
    unfold pv
    by_cases hlt : j % 255 < i
    ·rw [if_pos hlt, if_pos (by omega)]
    ·rw [if_neg hlt, if_neg (by omega)]
 ·rw [World.cell?_drew]
  by_cases e : j = pw i
  ·subst e
   rw [World.cell?_setCell_same _ _ _ (u := .int .i64 (lv i (pw i))) (by rw [World.cell?_setCell_other _ _ _ _ (ne (by omega)), World.cell?_setCell_other _ _ _ _ (ne (by omega))]; exact h2 _ hp.1)]
   unfold lv; rw [hlg, if_pos ⟨by omega, hp.2⟩]
  ·rw [World.cell?_setCell_other _ _ _ _ (ne (by omega)), World.cell?_setCell_other _ _ _ _ (ne (by omega)), World.cell?_setCell_other _ _ _ _ (ne (by omega)), h2 j hj]
   unfold lv
   by_cases j0 : j = 0
   ·rw [if_neg (fun h => h.2 j0), if_neg (fun h => h.2 j0)]
   ·have hl : lg j ≠ i := fun e' => e (by rw [← e']; exact (pw_lg j hj j0).2.symm)
    by_cases hlt : lg j < i
    ·rw [if_pos ⟨hlt, j0⟩, if_pos ⟨by omega, j0⟩]
    ·rw [if_neg (fun h => hlt h.1), if_neg (fun h => by omega)]
theorem mid_end {b : Nat} {w : World} (h : Mid b w 255) : IsField w b := by
 refine ⟨fun j hj => ?_, fun j hj => ?_⟩
 ·rw [h.1 j hj]; unfold pv; rw [if_pos (Nat.mod_lt _ (by omega))]
 ·rw [h.2.1 j hj]; unfold lv
  by_cases j0 : j = 0
  ·rw [if_neg (fun h => h.2 j0), j0, lg_0]; rfl
  ·rw [if_pos ⟨lg_bd j hj, j0⟩]
theorem xt_big (n : Nat) (h : 255 < (pw n : Int) * 2) : bits BinOp.xor IntKind.i64 ((pw n : Int) * 2) 285 = pw (n + 1) := by
 have e : ∀ a : Nat, a < 256 → 255 < (a : Int) * 2 → bits BinOp.xor IntKind.i64 ((a : Int) * 2) 285 = xt a := by decide +kernel
 exact e _ (pw_bd n).1 h
theorem xt_small (n : Nat) (h : (pw n : Int) * 2 ≤ 255) : (pw n : Int) * 2 = pw (n + 1) := by
 show _ = ((xt (pw n) : Nat) : Int)
 unfold xt; rw [if_neg (by omega)]; omega
def Tabs (w : World) (e : Ending) (w' : World) : Prop := ∃ b, e = .returned (.pointer (some ⟨b, 0, none⟩)) ∧ w.heap.size ≤ b ∧ b < w'.heap.size ∧ IsField w' b ∧ Below w.heap.size w w'
set_option maxHeartbeats 2000000 in
set_option maxRecDepth 100000 in
theorem newField_calls (w : World) : Calls Tryz.prog 125 #[] w (Tabs w) := by
 have hz := zero84
 go_enter Tryz.func125, Tryz.ntmps125
 go_wp2
 clear hz
 go_loopg [2, 6] 255 (fun kq v2 v6 w' => ∃ i : Nat, i + kq = 255 ∧ v2 = .int .i64 (pw i) ∧ v6 = .int .i64 i ∧ Hid (Mid w.heap.size w' i) ∧ Hid (Below w.heap.size w w'))
 case atStart => exact ⟨0, rfl, rfl, rfl, mid_start w, (Below.refl _ _).alloc (Nat.le_refl _) _⟩
 case round =>
  obtain ⟨i, hi, rfl, rfl, hm, hb⟩ := hrel
  by_cases hlt : i < 255
  ·have hx : (pw i : Int) < 256 := by have := (pw_bd i).1; omega
   have hx0 : (0 : Int) ≤ pw i := by omega
   have a1 := hm.out.1 i (by omega)
   have a2 := hm.out.1 (i + 255) (by omega)
   have a3 := hm.out.2.1 (pw i) (by omega)
   have f1 := hm.out.2.2.1 i
   have f2 := hm.out.2.2.1 (i + 255)
   have f3 := hm.out.2.2.1 (510 + pw i)
   go_wp2
   go_region
   all_goals go_wp2
   ·go_roundg (254 - i)
    case rel => exact ⟨i + 1, by omega, by rw [xt_big i ‹_›], by go_num, mid_next hm.out hlt, (((hb.out.setCell (Nat.le_refl _) _).setCell (Nat.le_refl _) _).setCell (Nat.le_refl _) _).drew⟩
    case measure => omega
   ·go_roundg (254 - i)
    case rel => exact ⟨i + 1, by omega, by rw [xt_small i ‹_›], by go_num, mid_next hm.out hlt, (((hb.out.setCell (Nat.le_refl _) _).setCell (Nat.le_refl _) _).setCell (Nat.le_refl _) _).drew⟩
    case measure => omega
  ·obtain rfl : i = 255 := by omega
   go_wp2
   go_ret
   exact ⟨_, rfl, Nat.le_refl _, hm.out.2.2.2, mid_end hm.out, hb.out⟩
theorem tables_calls (w : World) : Calls Tryz.prog 89 #[] w (Tabs w) := by
 go_enter Tryz.func89, Tryz.ntmps89
 go_wp2_with (go_at_call 125; refine (newField_calls _).mono ?_; rintro e w1 ⟨b1, rfl, hb1, hb2, hF, hB⟩)
 go_ret
 exact ⟨b1, rfl, hb1, hb2, hF, hB⟩
def in8 (a : Int) : Bool := decide (0 ≤ a ∧ a < 256)
def label_mul.f (a0 a1 : Int) : Option Int := if in8 a0 = true then (if in8 a1 = true then some (Rs.mulN a0.toNat a1.toNat) else none) else none
def label_exp.f (a0 : Int) : Option Int := if -100000 ≤ a0 ∧ a0 ≤ 100000 then some (pw (a0 % 255).toNat) else none
def label_inv.f (a0 : Int) : Option Int := if in8 a0 = true then some (Rs.invN a0.toNat) else none
theorem in8_nat {a : Int} (h : in8 a = true) : ∃ n : Nat, a = n ∧ n < 256 := by
 have := of_decide_eq_true h
 exact ⟨a.toNat, by omega, by omega⟩
set_option maxHeartbeats 800000 in
set_option maxRecDepth 100000 in
theorem mul_both (a b : Nat) (ha : 0 < a) (hb : 0 < b) (ha' : a < 256) (hb' : b < 256) (w : World) : Calls Tryz.prog 54 #[.int .u8 a, .int .u8 b] w fun e w' => e = .returned (.int .u8 (pw (lg a + lg b))) ∧ Below w.heap.size w w' := by
 have la := lg_bd a ha'
 have lb := lg_bd b hb'
 have za : ((a : Int) == 0) = false := by simp; omega
 have zb : ((b : Int) == 0) = false := by simp; omega
 go_enter Tryz.func54, Tryz.ntmps54
 go_wp2_with (fail)
 have ia : (a : Int) < 256 := by omega
 have ib : (b : Int) < 256 := by omega
 have ia0 : (0 : Int) ≤ (a : Int) := by omega
 have ib0 : (0 : Int) ≤ (b : Int) := by omega
 have s1 : IntKind.i64.wrap ((lg a : Int) + (lg b : Int)) = (lg a : Int) + (lg b : Int) := IntWalk.i64_in _ (by omega)
 have s2 : (0 : Int) ≤ (lg a : Int) + (lg b : Int) := by omega
 have s3 : (lg a : Int) + (lg b : Int) < 510 := by omega
 have s4 : ((lg a : Int) + (lg b : Int)).toNat = lg a + lg b := by omega
 have tok1 : True := trivial
 go_region_with (first
  | (go_at_call 89; have _t := tok1; clear tok1 _t; refine (tables_calls _).mono ?_; rintro e w1 ⟨b1, rfl, hb1, hb2, hF, hB⟩; have g1 := hF.1 (lg a + lg b) (by omega); have B1 := hid hB; clear hF hB; have tok2 : True := trivial)
  | (go_at_call 89; have _t := tok2; clear tok2 _t; refine (tables_calls _).mono ?_; rintro e w2 ⟨b2, rfl, hb3, hb4, hF, hB⟩; have g2 := hF.2 a ha'; have k1 := (hB.cell (p := ⟨b1, lg a + lg b, none⟩) hb2).trans g1; have B2 := hid hB; clear hF hB; have tok3 : True := trivial)
  | (go_at_call 89; have _t := tok3; clear tok3 _t; refine (tables_calls _).mono ?_; rintro e w3 ⟨b3, rfl, hb5, hb6, hF, hB⟩; have g3 := hF.2 b hb'; have k2 := (hB.cell (p := ⟨b1, lg a + lg b, none⟩) (Nat.lt_of_lt_of_le hb2 B2.out.size)).trans k1; have k3 := (hB.cell (p := ⟨b2, 510 + a, none⟩) hb4).trans g2; have B3 := hid hB; clear hF hB))
 all_goals
  go_wp2
  go_ret
  exact ⟨by first | rfl | (simp; done), (((Below.refl _ _).drew.trans (B1.out.mono (by simp))).trans (B2.out.mono (by have := B1.out.size; simp at this; omega))).trans (B3.out.mono (by have := B1.out.size; have := B2.out.size; simp at *; omega))⟩
theorem mul_left0 (b : Int) (w : World) : Calls Tryz.prog 54 #[.int .u8 0, .int .u8 b] w fun e w' => e = .returned (.int .u8 0) ∧ Below w.heap.size w w' := by
 go_enter Tryz.func54, Tryz.ntmps54
 go_wp2
 go_ret
 exact ⟨rfl, Below.refl _ _⟩
theorem mul_right0 (a : Int) (h : (a == 0) = false) (w : World) : Calls Tryz.prog 54 #[.int .u8 a, .int .u8 0] w fun e w' => e = .returned (.int .u8 0) ∧ Below w.heap.size w w' := by
 go_enter Tryz.func54, Tryz.ntmps54
 go_wp2
 go_ret
 exact ⟨rfl, Below.refl _ _⟩
theorem label_mul.calls (a0 a1 : Int) (r : Int) (w : World) (h : label_mul.f a0 a1 = some r) :
  Calls Tryz.prog 54 #[.int .u8 a0, .int .u8 a1] w fun e w' => e = .returned (.int .u8 r) ∧ Below w.heap.size w w' := by
 unfold label_mul.f at h
 by_cases h0 : in8 a0 = true
 ·rw [if_pos h0] at h
  by_cases h1 : in8 a1 = true
  ·rw [if_pos h1] at h
   obtain ⟨a, rfl, ha⟩ := in8_nat h0
   obtain ⟨b, rfl, hb⟩ := in8_nat h1
   rw [Int.toNat_natCast, Int.toNat_natCast] at h
   obtain rfl := Option.some.inj h
   clear h
   unfold Rs.mulN
   by_cases a0 : a = 0
   ·rw [if_pos (.inl a0), a0]; exact mul_left0 _ w
   ·by_cases b0 : b = 0
    ·rw [if_pos (.inr b0), b0]; exact mul_right0 _ (by simp; omega) w
    ·rw [if_neg (by omega)]; exact mul_both a b (by omega) (by omega) ha hb w
  ·rw [if_neg h1] at h; exact absurd h (by simp)
 ·rw [if_neg h0] at h; exact absurd h (by simp)
theorem emod_of (n : Int) (h : -100000 ≤ n ∧ n ≤ 100000) : 0 ≤ n % 255 ∧ n % 255 < 255 ∧ -255 < Int.tmod n 255 ∧ Int.tmod n 255 < 255 ∧ Int.tmod (Int.tmod n 255 + 255) 255 = n % 255 := by
 have h1 : Int.tmod n 255 = if 0 ≤ n ∨ (255 : Int) ∣ n then n % 255 else n % 255 - 255 := by
  rw [Int.tmod_eq_emod]; split <;> simp
 have a : 0 ≤ n % 255 := Int.emod_nonneg _ (by omega)
 have b : n % 255 < 255 := Int.emod_lt_of_pos _ (by omega)
 refine ⟨a, b, ?_, ?_, ?_⟩
 ·rw [h1]; split
  ·omega
  ·rename_i hn; have : n % 255 ≠ 0 := fun e => hn (.inr (Int.dvd_of_emod_eq_zero e)); omega
 ·rw [h1]; split <;> omega
 ·rw [h1]; split
  ·rw [Int.tmod_eq_emod_of_nonneg (by omega)]; omega
  ·rw [Int.tmod_eq_emod_of_nonneg (by omega)]; omega
set_option maxHeartbeats 800000 in
set_option maxRecDepth 100000 in
theorem exp_any (n : Int) (h : -100000 ≤ n ∧ n ≤ 100000) (w : World) : Calls Tryz.prog 88 #[.int .i64 n] w fun e w' => e = .returned (.int .u8 (pw (n % 255).toNat)) ∧ Below w.heap.size w w' := by
 obtain ⟨a, b, c, d, e⟩ := emod_of n h
 obtain ⟨h1, h2⟩ := h
 go_enter Tryz.func88, Tryz.ntmps88
 obtain ⟨m, hm⟩ : ∃ m : Nat, n % 255 = m := ⟨(n % 255).toNat, by omega⟩
 obtain ⟨t, ht⟩ : ∃ t : Int, Int.tmod n 255 = t := ⟨_, rfl⟩
 have s1 : wrap64 (t + 255) = t + 255 := w64_in _ (by omega) (by omega)
 have s3 : wrap64 t = t := w64_in _ (by omega) (by omega)
 have s4 : Int.tmod (t + 255) 255 = m := by rw [← ht, e, hm]
 have s5 : wrap64 (m : Int) = m := w64_in _ (by omega) (by omega)
 have b' : (m : Int) < 255 := by omega
 have b2 : (m : Int) < 510 := by omega
 have HM := hid hm
 clear hm e a b
 go_wp2_with (go_at_call 89; refine (tables_calls _).mono ?_; rintro e w1 ⟨b1, rfl, hb1, hb2, hF, hB⟩; have g1 := hF.1 m (by omega); have B1 := hid hB; clear hF hB)
 go_ret
 exact ⟨by rw [HM.out]; rfl, B1.out⟩
theorem label_exp.calls (a0 : Int) (r : Int) (w : World) (h : label_exp.f a0 = some r) :
  Calls Tryz.prog 88 #[.int .i64 a0] w fun e w' => e = .returned (.int .u8 r) ∧ Below w.heap.size w w' := by
 unfold label_exp.f at h
 by_cases h0 : -100000 ≤ a0 ∧ a0 ≤ 100000
 ·rw [if_pos h0] at h
  obtain rfl := Option.some.inj h
  exact exp_any a0 h0 w
 ·rw [if_neg h0] at h; exact absurd h (by simp)
set_option maxHeartbeats 800000 in
set_option maxRecDepth 100000 in
theorem inv_any (a : Nat) (ha : a < 256) (w : World) : Calls Tryz.prog 91 #[.int .u8 a] w fun e w' => e = .returned (.int .u8 (pw (255 - lg a))) ∧ Below w.heap.size w w' := by
 have la := lg_bd a ha
 have ia : (a : Int) < 256 := by omega
 have ia0 : (0 : Int) ≤ (a : Int) := by omega
 have hpw : pw ((-(lg a : Int)) % 255).toNat = pw (255 - lg a) := by rw [pw_mod (255 - lg a)]; congr 1; omega
 have HP := hid hpw
 clear hpw
 go_enter Tryz.func91, Tryz.ntmps91
 have s1 : IntKind.i64.wrap (-(lg a : Int)) = -(lg a : Int) := IntWalk.i64_in _ (by omega)
 have s2 : wrap64 (-(lg a : Int)) = -(lg a : Int) := w64_in _ (by omega) (by omega)
 go_wp2_with (first
  | (go_at_call 89; refine (tables_calls _).mono ?_; rintro e w1 ⟨b1, rfl, hb1, hb2, hF, hB⟩; have g1 := hF.2 a ha; have B1 := hid hB; clear hF hB)
  | (go_at_call 88; refine (exp_any _ (by omega) _).mono ?_; rintro e w2 ⟨rfl, hB⟩; have B2 := hid hB; clear hB))
 go_ret
 exact ⟨by rw [HP.out]; rfl, B1.out.trans (B2.out.mono B1.out.size)⟩
theorem label_inv.calls (a0 : Int) (r : Int) (w : World) (h : label_inv.f a0 = some r) :
  Calls Tryz.prog 91 #[.int .u8 a0] w fun e w' => e = .returned (.int .u8 r) ∧ Below w.heap.size w w' := by
 unfold label_inv.f at h
 by_cases h0 : in8 a0 = true
 ·rw [if_pos h0] at h
  obtain ⟨a, rfl, ha⟩ := in8_nat h0
  rw [Int.toNat_natCast] at h
  obtain rfl := Option.some.inj h
  exact inv_any a ha w
 ·rw [if_neg h0] at h; exact absurd h (by simp)
end Go.Proofs.YtiioklboaookiaaGreatDoor.Hand
namespace Go.Proofs.YtiioklboaookiaaGreatDoor.Hand
open Go.RowKit Go.Proofs.YtiioklboaookiaaGreatDoorW.PrintWords Go.Proofs.YtiioklboaookiaaGreatDoorW.PrintLast Go.Proofs.YtiioklboaookiaaGreatDoorW.PrintMore
open Rs (xt pw_bd lg_pw pw_lg pw_mod)
attribute [local go_sem] max2_int min2_int max_two min_two max_three min_three max_four min_four
set_option linter.unusedVariables false
set_option linter.unusedSimpArgs false
theorem Tryz.infoU8 : (Tryz.prog.info? 5).map (fun i => (i.zero, i.size, i.bytes)) = some (some (.int .u8 0), 1, 1) := by kernel_rfl
theorem info_size {P : Program} {e : Nat} {z : Value} {b : Nat} (h : (P.info? e).map (fun i => (i.zero, i.size, i.bytes)) = some (some z, 1, b)) : (P.info? e).map (·.size) = some 1 := by
 cases hi : P.info? e with
 | none => rw [hi] at h; simp at h
 | some i => rw [hi] at h; simp at h; simp [h.2.1]
def label_extend.f (l0 : List Int) (a1 : Int) : Option (List Int) := if 0 ≤ a1 then (if a1 ≤ 100000 then (if (l0.length : Int) ≤ 100000 then some (l0 ++ List.replicate (a1.toNat - l0.length) 0) else none) else none) else none
set_option maxHeartbeats 1000000 in
set_option maxRecDepth 100000 in
theorem extend_walk (A0 : Option Addr) (c0 : Nat) (l0 : List Int) (a1 n : Int) (w : World) (hr0 : Kd.C (Kd.int .u8) w A0 l0.length l0) (hc0 : l0.length ≤ c0) (h0 : 0 ≤ a1) (h1 : a1 ≤ 100000) (h2 : (l0.length : Int) ≤ 100000)
  (hn : (if a1 < (l0.length : Int) then (l0.length : Int) else a1) = n) :
  Calls Tryz.prog 93 #[.slice A0 l0.length c0, .int .i64 a1] w fun e w' => ∃ v0_ : Value, e = .returned (v0_) ∧ Kd.R (Kd.int .u8) 5 w' w.heap.size (fun _ => True) v0_ (l0.take (min l0.length n.toNat) ++ (List.replicate n.toNat 0).drop (min l0.length n.toNat)) ∧ Below w.heap.size w w' := by
 have HR0 := Aside0.mk hr0
 have HC0 := Aside0.mk hc0
 clear hr0 hc0
 have n0 : 0 ≤ n := by rw [← hn]; split <;> omega
 have n1 : n ≤ 100000 := by rw [← hn]; split <;> omega
 have N1 := Aside0.mk n1
 go_enter Tryz.func93, Tryz.ntmps93
 go_wp2_with (first
  | ((with_reducible refine gate_dst (N := 10) rfl ?_); refine Kd.R_make (Kd.int .u8) _ 5 rfl (N := 10) rfl 32 _ _ rfl n rfl rfl Tryz.underlying32 (.int .u8 0) 1 Tryz.infoU8 rfl (by decide) (by omega) 0 (ok := fun _ => True) (okp := fun _ => True) rfl (fun _ hk => hk) trivial n0 (by have := N1.out; omega) (Below.refl _ _) (Nat.le_refl _) ?_; intro v1 w1 ho hb hg_ hnew_; clear hg_ hnew_; have HO1 := Aside0.mk ho; have HB1 := Aside0.mk hb; clear ho hb)
  | ((with_reducible refine gate_builtin (b := .copy) (xs := #[.tmp 11, .tmp 12]) rfl ?_); refine Kd.R_copy (0 : Int) w.heap.size rfl (.tmp 11) (.tmp 12) 32 32 5 rfl Tryz.underlying32 (info_size Tryz.infoU8) v1 (List.replicate n.toNat 0) l0 A0 l0.length c0 (fun _ => True) rfl rfl HO1.out (Kd.C_below HR0.out HB1.out) HB1.out HB1.out.size ?_; intro w2 ho hb hg_; clear hg_; have HO2 := Aside0.mk ho; have HB2 := Aside0.mk hb; clear ho hb))
 go_ret
 exact ⟨_, rfl, by have := HO2.out; rw [List.length_replicate] at this; exact this, HB2.out⟩
theorem label_extend.calls (A0 : Option Addr) (c0 : Nat) (l0 : List Int) (a1 : Int) (r : List Int) (w : World) (hr0 : Kd.C (Kd.int .u8) w A0 l0.length l0) (hc0 : l0.length ≤ c0) (h : label_extend.f l0 a1 = some r) :
  Calls Tryz.prog 93 #[.slice A0 l0.length c0, .int .i64 a1] w fun e w' => ∃ v0_ : Value, e = .returned (v0_) ∧ Kd.R (Kd.int .u8) 5 w' w.heap.size (fun _ => True) v0_ r ∧ Below w.heap.size w w' := by
 unfold label_extend.f at h
 by_cases h0 : 0 ≤ a1
 ·by_cases h1 : a1 ≤ 100000
  ·by_cases h2 : (l0.length : Int) ≤ 100000
   ·rw [if_pos h0, if_pos h1, if_pos h2] at h
    obtain rfl := Option.some.inj h
    refine (extend_walk A0 c0 l0 a1 _ w hr0 hc0 h0 h1 h2 rfl).mono ?_
    rintro e w' ⟨v, rfl, ho, hb⟩
    refine ⟨v, rfl, ?_, hb⟩
    have e : l0 ++ List.replicate (a1.toNat - l0.length) 0 = (l0.take (min l0.length (if a1 < (l0.length : Int) then (l0.length : Int) else a1).toNat) ++ (List.replicate (if a1 < (l0.length : Int) then (l0.length : Int) else a1).toNat 0).drop (min l0.length (if a1 < (l0.length : Int) then (l0.length : Int) else a1).toNat)) := by
     split
     ·rw [show (l0.length : Int).toNat = l0.length from rfl, Nat.min_self, List.take_length, show a1.toNat - l0.length = 0 from by omega]; simp
     ·rw [Nat.min_eq_left (by omega), List.take_length, List.drop_replicate]
    rw [e]; exact ho
   ·rw [if_pos h0, if_pos h1, if_neg h2] at h; exact absurd h (by simp)
  ·rw [if_pos h0, if_neg h1] at h; exact absurd h (by simp)
 ·rw [if_neg h0] at h; exact absurd h (by simp)
end Go.Proofs.YtiioklboaookiaaGreatDoor.Hand
namespace Go.Proofs.YtiioklboaookiaaGreatDoor.Hand
open Go.RowKit Go.Proofs.YtiioklboaookiaaGreatDoorW.PrintWords Go.Proofs.YtiioklboaookiaaGreatDoorW.PrintLast Go.Proofs.YtiioklboaookiaaGreatDoorW.PrintMore
open Rs (xt pw_bd lg_pw pw_lg pw_mod)
attribute [local go_sem] max2_int min2_int max_two min_two max_three min_three max_four min_four
set_option linter.unusedVariables false
set_option linter.unusedSimpArgs false
theorem mulN_in {x y : Int} : in8 (Rs.mulN x.toNat y.toNat : Nat) = true := decide_eq_true (by have := Rs.mulN_bd x.toNat y.toNat; omega)
theorem label_mul.some {x y : Int} (hx : in8 x = true) (hy : in8 y = true) : label_mul.f x y = Option.some ((Rs.mulN x.toNat y.toNat : Nat) : Int) := by
 unfold label_mul.f; rw [if_pos hx, if_pos hy]
set_option maxHeartbeats 1000000 in
set_option maxRecDepth 100000 in
theorem times1_skip (i k : Nat) (lim : Int) (bl bo bp bq : Nat) (w : World) (hi : (i : Int) ≤ 100000) (hk : (k : Int) ≤ 100000) (hL : w.heap[bl]? = some (.cells #[.int .i64 lim] 3 (0, 0))) (h : lim ≤ (i : Int) + k) :
  Calls Tryz.prog 124 #[.int .i64 i, .int .i64 k, .pointer (some ⟨bl, 0, none⟩), .pointer (some ⟨bo, 0, none⟩), .pointer (some ⟨bp, 0, none⟩), .pointer (some ⟨bq, 0, none⟩)] w fun e w' => e = .returned (.tuple #[]) ∧ Drawn0 w w' := by
 have c1 := cell_of_one hL
 have d : decide ((i : Int) + k < lim) = false := decide_eq_false (by omega)
 clear hL
 go_enter Tryz.func124, Tryz.ntmps124
 go_wp2
 go_end0
 exact ⟨rfl, Drawn0.refl _⟩
set_option maxHeartbeats 4000000 in
set_option maxRecDepth 100000 in
theorem times1_does (i k : Nat) (lim x y z m : Int) (bl bo bp bq g n cap lp cp lq cq : Nat) (ap aq : Addr) (w : World) (hi : (i : Int) ≤ 100000) (hk : (k : Int) ≤ 100000)
  (hL : w.heap[bl]? = some (.cells #[.int .i64 lim] 3 (0, 0))) (hO : w.heap[bo]? = some (.cells #[.slice (some ⟨g, 0, none⟩) n cap] 32 (0, 0)))
  (hP : w.heap[bp]? = some (.cells #[.slice (some ap) lp cp] 32 (0, 0))) (hQ : w.heap[bq]? = some (.cells #[.slice (some aq) lq cq] 32 (0, 0)))
  (h : (i : Int) + k < lim) (hn : i + k < n) (hlp : i < lp) (hlq : k < lq) (hx : w.cell? (ap.add i) = some (.int .u8 x)) (hy : w.cell? (aq.add k) = some (.int .u8 y))
  (hz : w.cell? ⟨g, i + k, none⟩ = some (.int .u8 z)) (hf : w.frozen? ⟨g, i + k, none⟩ = false) (hm : label_mul.f x y = some m) :
  Calls Tryz.prog 124 #[.int .i64 i, .int .i64 k, .pointer (some ⟨bl, 0, none⟩), .pointer (some ⟨bo, 0, none⟩), .pointer (some ⟨bp, 0, none⟩), .pointer (some ⟨bq, 0, none⟩)] w fun e w' =>
   e = .returned (.tuple #[]) ∧ ∃ w1, Below w.heap.size w w1 ∧ w' = w1.setCell ⟨g, i + k, none⟩ (.int .u8 (Go.bits .xor .u8 z m)) := by
 have c1 := cell_of_one hL
 have c2 := cell_of_one hO
 have c3 := cell_of_one hP
 have c4 := cell_of_one hQ
 have d : decide ((i : Int) + k < lim) = true := decide_eq_true h
 have l2 := World.block_lt_of_cell? w _ c2
 have l3 := World.block_lt_of_cell? w _ c3
 have l4 := World.block_lt_of_cell? w _ c4
 have lx := World.block_lt_of_cell? w _ hx
 have ly := World.block_lt_of_cell? w _ hy
 have lz := World.block_lt_of_cell? w _ hz
 have hM := hid hm
 clear hm h hL hO hP hQ
 go_enter Tryz.func124, Tryz.ntmps124
 have e0 : (0 : Int) ≤ (i : Int) + k := by omega
 have e1 : (i : Int) + k < (n : Int) := by omega
 have e2 : ((i : Int) + k).toNat = i + k := by omega
 have e3 : IntKind.i64.wrap ((i : Int) + (k : Int)) = (i : Int) + (k : Int) := IntWalk.i64_in _ (by omega)
 have e4 : (i : Int) < lp := by omega
 have e5 : (k : Int) < lq := by omega
 have e6 : (0 : Int) ≤ (i : Int) := by omega
 have e7 : (0 : Int) ≤ (k : Int) := by omega
 go_wp2_with (fail)
 refine start_ (n := 18) (S := fun w' => w'.cell? ⟨bo, 0, none⟩ = some (.slice (some ⟨g, 0, none⟩) n cap) ∧ w'.cell? ⟨bp, 0, none⟩ = some (.slice (some ap) lp cp) ∧ w'.cell? ⟨bq, 0, none⟩ = some (.slice (some aq) lq cq) ∧ w'.cell? (ap.add i) = some (.int .u8 x) ∧ w'.cell? (aq.add k) = some (.int .u8 y) ∧ w'.cell? ⟨g, i + k, none⟩ = some (.int .u8 z)) (ds := [17]) #[false, false, false, false, false, false, false, false, false, false, false, false, false, false, false, false, false, false] (by kernel_rfl) rfl rfl ⟨c2, c3, c4, hx, hy, hz⟩ (fun hHeld => ?_)
 refine pure_ (i := 1) (N := some 14) (v := ?_) (a' := ?_) #[false, true, false, false, false, false, false, false, false, false, false, false, false, false, false, false, false, false] rfl rfl (by kernel_rfl) (fun _ _ _ h => h) (Or.inl ⟨by rfl, ?_⟩) ?_ ?_
 rotate_left
 ·intro w'
  go_simp
  with_reducible rfl
 rotate_left
 ·simp only [Act.put, List.setIfInBounds_toArray, List.set_cons_zero, List.set_cons_succ, i64_w, i32_w]
  rfl
 refine pure_ (i := 2) (N := some 15) (v := ?_) (a' := ?_) #[false, true, true, false, false, false, false, false, false, false, false, false, false, false, false, false, false, false] rfl rfl (by kernel_rfl) (fun _ _ _ h => h) (Or.inl ⟨by rfl, ?_⟩) ?_ ?_
 rotate_left
 ·intro w'
  go_simp
  with_reducible rfl
 rotate_left
 ·simp only [Act.put, List.setIfInBounds_toArray, List.set_cons_zero, List.set_cons_succ, i64_w, i32_w]
  rfl
 refine pure_ (i := 3) (N := some 16) (v := ?_) (a' := ?_) #[false, true, true, true, false, false, false, false, false, false, false, false, false, false, false, false, false, false] rfl rfl (by kernel_rfl) (fun _ _ _ h => h) (Or.inl ⟨by rfl, ?_⟩) ?_ ?_
 rotate_left
 ·intro w'
  go_simp
  with_reducible rfl
 rotate_left
 ·simp only [Act.put, List.setIfInBounds_toArray, List.set_cons_zero, List.set_cons_succ, i64_w, i32_w]
  rfl
 refine pure_ (i := 7) (N := some 20) (v := ?_) (a' := ?_) #[false, true, true, true, false, false, false, true, false, false, false, false, false, false, false, false, false, false] rfl rfl (by kernel_rfl) (fun _ _ _ h => h) (Or.inl ⟨by rfl, ?_⟩) ?_ ?_
 rotate_left
 ·intro w'
  go_simp
  with_reducible rfl
 rotate_left
 ·simp only [Act.put, List.setIfInBounds_toArray, List.set_cons_zero, List.set_cons_succ, i64_w, i32_w]
  rfl
 refine pure_ (i := 11) (N := some 24) (v := ?_) (a' := ?_) #[false, true, true, true, false, false, false, true, false, false, false, true, false, false, false, false, false, false] rfl rfl (by kernel_rfl) (fun _ _ _ h => h) (Or.inl ⟨by rfl, ?_⟩) ?_ ?_
 rotate_left
 ·intro w'
  go_simp
  with_reducible rfl
 rotate_left
 ·simp only [Act.put, List.setIfInBounds_toArray, List.set_cons_zero, List.set_cons_succ, i64_w, i32_w]
  rfl
 refine take_ (i := 0) (N := some 13) (v := ?_) (a' := ?_) #[true, true, true, true, false, false, false, true, false, false, false, true, false, false, false, false, false, false] rfl rfl (by kernel_rfl) (fun _ _ _ h => h) (Or.inl ⟨by rfl, ?_⟩) hHeld ?_ ?_
 rotate_left
 ·rintro w' ⟨s0, s1, s2, s3, s4, s5⟩
  go_simp
  with_reducible rfl
 rotate_left
 ·simp only [Act.put, List.setIfInBounds_toArray, List.set_cons_zero, List.set_cons_succ, i64_w, i32_w]
  rfl
 refine pure_ (i := 4) (N := some 17) (v := ?_) (a' := ?_) #[true, true, true, true, true, false, false, true, false, false, false, true, false, false, false, false, false, false] rfl rfl (by kernel_rfl) (fun _ _ _ h => h) (Or.inl ⟨by rfl, ?_⟩) ?_ ?_
 rotate_left
 ·intro w'
  go_simp
  with_reducible rfl
 rotate_left
 ·simp only [Act.put, List.setIfInBounds_toArray, List.set_cons_zero, List.set_cons_succ, i64_w, i32_w]
  rfl
 refine take_ (i := 5) (N := some 18) (v := ?_) (a' := ?_) #[true, true, true, true, true, true, false, true, false, false, false, true, false, false, false, false, false, false] rfl rfl (by kernel_rfl) (fun _ _ _ h => h) (Or.inl ⟨by rfl, ?_⟩) hHeld ?_ ?_
 rotate_left
 ·rintro w' ⟨s0, s1, s2, s3, s4, s5⟩
  go_simp
  with_reducible rfl
 rotate_left
 ·simp only [Act.put, List.setIfInBounds_toArray, List.set_cons_zero, List.set_cons_succ, i64_w, i32_w]
  rfl
 refine take_ (i := 6) (N := some 19) (v := ?_) (a' := ?_) #[true, true, true, true, true, true, true, true, false, false, false, true, false, false, false, false, false, false] rfl rfl (by kernel_rfl) (fun _ _ _ h => h) (Or.inl ⟨by rfl, ?_⟩) hHeld ?_ ?_
 rotate_left
 ·rintro w' ⟨s0, s1, s2, s3, s4, s5⟩
  go_simp
  with_reducible rfl
 rotate_left
 ·simp only [Act.put, List.setIfInBounds_toArray, List.set_cons_zero, List.set_cons_succ, i64_w, i32_w]
  rfl
 refine pure_ (i := 8) (N := some 21) (v := ?_) (a' := ?_) #[true, true, true, true, true, true, true, true, true, false, false, true, false, false, false, false, false, false] rfl rfl (by kernel_rfl) (fun _ _ _ h => h) (Or.inl ⟨by rfl, ?_⟩) ?_ ?_
 rotate_left
 ·intro w'
  go_simp
  with_reducible rfl
 rotate_left
 ·simp only [Act.put, List.setIfInBounds_toArray, List.set_cons_zero, List.set_cons_succ, i64_w, i32_w]
  rfl
 refine take_ (i := 9) (N := some 22) (v := ?_) (a' := ?_) #[true, true, true, true, true, true, true, true, true, true, false, true, false, false, false, false, false, false] rfl rfl (by kernel_rfl) (fun _ _ _ h => h) (Or.inl ⟨by rfl, ?_⟩) hHeld ?_ ?_
 rotate_left
 ·rintro w' ⟨s0, s1, s2, s3, s4, s5⟩
  go_simp
  with_reducible rfl
 rotate_left
 ·simp only [Act.put, List.setIfInBounds_toArray, List.set_cons_zero, List.set_cons_succ, i64_w, i32_w]
  rfl
 refine take_ (i := 10) (N := some 23) (v := ?_) (a' := ?_) #[true, true, true, true, true, true, true, true, true, true, true, true, false, false, false, false, false, false] rfl rfl (by kernel_rfl) (fun _ _ _ h => h) (Or.inl ⟨by rfl, ?_⟩) hHeld ?_ ?_
 rotate_left
 ·rintro w' ⟨s0, s1, s2, s3, s4, s5⟩
  go_simp
  with_reducible rfl
 rotate_left
 ·simp only [Act.put, List.setIfInBounds_toArray, List.set_cons_zero, List.set_cons_succ, i64_w, i32_w]
  rfl
 refine pure_ (i := 12) (N := some 25) (v := ?_) (a' := ?_) #[true, true, true, true, true, true, true, true, true, true, true, true, true, false, false, false, false, false] rfl rfl (by kernel_rfl) (fun _ _ _ h => h) (Or.inl ⟨by rfl, ?_⟩) ?_ ?_
 rotate_left
 ·intro w'
  go_simp
  with_reducible rfl
 rotate_left
 ·simp only [Act.put, List.setIfInBounds_toArray, List.set_cons_zero, List.set_cons_succ, i64_w, i32_w]
  rfl
 refine take_ (i := 13) (N := some 26) (v := ?_) (a' := ?_) #[true, true, true, true, true, true, true, true, true, true, true, true, true, true, false, false, false, false] rfl rfl (by kernel_rfl) (fun _ _ _ h => h) (Or.inl ⟨by rfl, ?_⟩) hHeld ?_ ?_
 rotate_left
 ·rintro w' ⟨s0, s1, s2, s3, s4, s5⟩
  go_simp
  with_reducible rfl
 rotate_left
 ·simp only [Act.put, List.setIfInBounds_toArray, List.set_cons_zero, List.set_cons_succ, i64_w, i32_w]
  rfl
 refine one_ (i := 14) (N := some 27) #[true, true, true, true, true, true, true, true, true, true, true, true, true, true, true, false, false, false] rfl rfl (by kernel_rfl) (by decide) (fun K hK => ?_)
 refine goes_ Tryz.func54 (by kernel_rfl) rfl #[.int .u8 x, .int .u8 y] (by rfl) rfl rfl (by (try simp only [List.map_toArray, List.map_cons, List.map_nil]); first | done | rfl) ?_
 with_reducible refine (label_mul.calls x y m _ hM.out).mono ?_
 rintro e w1 ⟨rfl, hB⟩
 have B1 := Aside0.mk hB
 clear hB
 have gz := (B1.out.cell (p := ⟨g, i + k, none⟩) (by simpa using lz)).trans hz
 have gf := (B1.out.frozen (p := ⟨g, i + k, none⟩) (by simpa using lz)).trans hf
 refine ⟨_, rfl, ?_⟩
 refine hK.out _ _ ⟨(B1.out.cell (p := ⟨bo, 0, none⟩) (by simpa using l2)).trans c2, (B1.out.cell (p := ⟨bp, 0, none⟩) (by simpa using l3)).trans c3, (B1.out.cell (p := ⟨bq, 0, none⟩) (by simpa using l4)).trans c4, (B1.out.cell (p := ap.add i) (by simpa using lx)).trans hx, (B1.out.cell (p := aq.add k) (by simpa using ly)).trans hy, gz⟩ (fun hHeld => ?_)
 clear hK K
 refine norm_ (a' := ?_) ?_ ?_
 rotate_left
 ·show Act.put _ (some 27) _ = _
  simp only [Act.put, List.setIfInBounds_toArray, List.set_cons_zero, List.set_cons_succ, i64_w, i32_w]
  rfl
 refine pure_ (i := 15) (N := some 28) (v := ?_) (a' := ?_) #[true, true, true, true, true, true, true, true, true, true, true, true, true, true, true, true, false, false] rfl rfl (by kernel_rfl) (fun _ _ _ h => h) (Or.inl ⟨by rfl, ?_⟩) ?_ ?_
 rotate_left
 ·intro w'
  go_simp
  with_reducible rfl
 rotate_left
 ·simp only [Act.put, List.setIfInBounds_toArray, List.set_cons_zero, List.set_cons_succ, i64_w, i32_w]
  rfl
 refine pure_ (i := 16) (N := some 29) (v := ?_) (a' := ?_) #[true, true, true, true, true, true, true, true, true, true, true, true, true, true, true, true, true, false] rfl rfl (by kernel_rfl) (fun _ _ _ h => h) (Or.inl ⟨by rfl, ?_⟩) ?_ ?_
 rotate_left
 ·intro w'
  go_simp
  with_reducible rfl
 rotate_left
 ·simp only [Act.put, List.setIfInBounds_toArray, List.set_cons_zero, List.set_cons_succ, i64_w, i32_w]
  rfl
 refine last_ (i := 17) (N := none) #[true, true, true, true, true, true, true, true, true, true, true, true, true, true, true, true, true, true] rfl rfl (by kernel_rfl) (by decide) (fun K hK => ?_)
 refine skip_ (w1 := ?_) (by rfl) rfl ?_ ?_
 rotate_left
 ·go_simp
  rfl
 refine hK.out _ _ ?_
 clear hK K
 refine done_ (by kernel_rfl) ?_
 try go_wp2
 go_end0
 exact ⟨rfl, _, (Below.refl _ _).drew.trans (B1.out.mono (by simp)), rfl⟩
def tin (x : Int) : List Int → Nat → List Int → List Int
 | [], _, out => out
 | y :: q, a, out => tin x q (a + 1) (out.set a (Go.bits .xor .u8 (rd out a) (Rs.mulN x.toNat y.toNat : Nat)))
def tout (q : List Int) : List Int → Nat → List Int → List Int
 | [], _, out => out
 | x :: p, a, out => tout q p (a + 1) (tin x q a out)
def bytesB (l : List Int) : Bool := l.all in8
def label_times.f (l0 l1 : List Int) (a2 : Int) : Option (List Int) :=
 if 0 ≤ a2 ∧ a2 ≤ 100000 ∧ (l0.length : Int) ≤ 100000 ∧ (l1.length : Int) ≤ 100000 ∧ bytesB l0 = true ∧ bytesB l1 = true then some (tout l1 l0 0 (List.replicate a2.toNat 0)) else none
theorem bytesB_rd {l : List Int} (h : bytesB l = true) (i : Nat) (hi : i < l.length) : in8 (rd l i) = true := by
 unfold rd; rw [Int.toNat_natCast, List.getD_eq_getElem?_getD, List.getElem?_eq_getElem hi]
 exact List.all_eq_true.1 h _ (List.getElem_mem hi)
theorem drop_rd {l : List Int} (i : Nat) (hi : i < l.length) : l.drop i = rd l i :: l.drop (i + 1) := by
 unfold rd; rw [Int.toNat_natCast, List.getD_eq_getElem?_getD, List.getElem?_eq_getElem hi, List.drop_eq_getElem_cons hi]; rfl
theorem set_out {l : List Int} (i : Nat) (v : Int) (h : l.length ≤ i) : l.set i v = l := List.set_eq_of_length_le h
theorem R_made {w : World} {base g n : Nat} {e : TypeId} (hb : base ≤ g) (h : w.heap[g]? = some (.cells (madeCells #[.int .u8 0] n) e (0, 0))) (hn : n ≤ maxLen) :
  Kd.R (Kd.int .u8) e w base (fun _ => True) (.slice (some ⟨g, 0, none⟩) n n) (List.replicate n 0) := by
 refine Kd.R_of_own (h1 := fun _ => rfl) ?_ (fun _ _ => trivial)
 refine ⟨by simp [encs], .inr ⟨g, n, _, by simp, hb, h, by simp, hn, by rw [size_madeCells, Nat.mul_one], ?_⟩⟩
 apply List.ext_getElem
 ·simp [size_madeCells, encs]
 ·intro j h1 h2
  simp [madeCells, encs, Nat.mod_one]
def Boxes (B : Nat) (A0 : Option Addr) (n0 c0 : Nat) (A1 : Option Addr) (n1 c1 n : Nat) (w : World) : Prop :=
 w.heap[B]? = some (.cells #[.slice A0 n0 c0] 32 (0, 0)) ∧ w.heap[B + 1]? = some (.cells #[.slice A1 n1 c1] 32 (0, 0)) ∧
 w.heap[B + 1 + 1]? = some (.cells #[.int .i64 n] 3 (0, 0)) ∧ w.heap[B + 1 + 1 + 1 + 1]? = some (.cells #[.slice (some ⟨B + 1 + 1 + 1, 0, none⟩) n n] 32 (0, 0))
theorem lt_of_some {α : Type} {a : Array α} {i : Nat} {v : α} (h : a[i]? = some v) : i < a.size := by
 rcases Nat.lt_or_ge i a.size with h' | h'
 ·exact h'
 ·rw [Array.getElem?_eq_none h'] at h; exact absurd h (by simp)
theorem Boxes.lt {B : Nat} {A0 : Option Addr} {n0 c0 : Nat} {A1 : Option Addr} {n1 c1 n : Nat} {w : World} (h : Boxes B A0 n0 c0 A1 n1 c1 n w) : B < w.heap.size ∧ B + 1 < w.heap.size ∧ B + 1 + 1 < w.heap.size ∧ B + 1 + 1 + 1 + 1 < w.heap.size :=
 ⟨lt_of_some h.1, lt_of_some h.2.1, lt_of_some h.2.2.1, lt_of_some h.2.2.2⟩
theorem heap_old (w : World) (o : Obj) (k : Nat) (h : k < w.heap.size) : (w.alloc o).heap[k]? = w.heap[k]? := Below.heap_alloc w o k h
theorem heap_new (w : World) (o : Obj) (k : Nat) (h : k = w.heap.size) : (w.alloc o).heap[k]? = some o := by
 subst h; show (w.heap.push o)[w.heap.size]? = _; simp
theorem times_boxes (w : World) (A0 : Option Addr) (n0 c0 : Nat) (A1 : Option Addr) (n1 c1 n : Nat) (R : Obj) : Boxes w.heap.size A0 n0 c0 A1 n1 c1 n
  (((((w.alloc (.cells #[.slice A0 n0 c0] 32)).alloc (.cells #[.slice A1 n1 c1] 32)).alloc (.cells #[.int .i64 n] 3)).alloc R).alloc (.cells #[.slice (some ⟨w.heap.size + 1 + 1 + 1, 0, none⟩) n n] 32)) := by
 refine ⟨?_, ?_, ?_, ?_⟩
 ·rw [heap_old _ _ _ (by first | (simp; done) | (simp; omega)), heap_old _ _ _ (by first | (simp; done) | (simp; omega)), heap_old _ _ _ (by first | (simp; done) | (simp; omega)), heap_old _ _ _ (by simp), heap_new _ _ _ rfl]
 ·rw [heap_old _ _ _ (by first | (simp; done) | (simp; omega)), heap_old _ _ _ (by first | (simp; done) | (simp; omega)), heap_old _ _ _ (by simp), heap_new _ _ _ (by simp)]
 ·rw [heap_old _ _ _ (by first | (simp; done) | (simp; omega)), heap_old _ _ _ (by simp), heap_new _ _ _ (by simp)]
 ·rw [heap_new _ _ _ (by simp)]
theorem times_row (w : World) (a b c : Obj) (d : Obj) (v : Value) (t : TypeId) : (((((w.alloc a).alloc b).alloc c).alloc d).alloc (.cells #[v] t)).heap[w.heap.size + 1 + 1 + 1]? = some d := by
 rw [heap_old _ _ _ (by simp), heap_new _ _ _ (by simp)]
set_option maxHeartbeats 4000000 in
set_option maxRecDepth 100000 in
theorem times_walk (A0 : Option Addr) (c0 : Nat) (l0 : List Int) (A1 : Option Addr) (c1 : Nat) (l1 : List Int) (n : Nat) (r : List Int) (w : World) (hr0 : Kd.C (Kd.int .u8) w A0 l0.length l0) (hc0 : l0.length ≤ c0) (hr1 : Kd.C (Kd.int .u8) w A1 l1.length l1) (hc1 : l1.length ≤ c1)
  (hn : (n : Int) ≤ 100000) (h0 : (l0.length : Int) ≤ 100000) (h1 : (l1.length : Int) ≤ 100000) (b0 : bytesB l0 = true) (b1 : bytesB l1 = true) (hr : tout l1 l0 0 (List.replicate n 0) = r) :
  Calls Tryz.prog 87 #[.slice A0 l0.length c0, .slice A1 l1.length c1, .int .i64 n] w fun e w' => ∃ v0_ : Value, e = .returned (v0_) ∧ Kd.R (Kd.int .u8) 5 w' w.heap.size (fun _ => True) v0_ r ∧ Below w.heap.size w w' := by
 have HR0 := Aside0.mk hr0
 have HR1 := Aside0.mk hr1
 have HH := Aside0.mk hr
 have HB0 := Aside0.mk b0
 have HB1 := Aside0.mk b1
 clear hr0 hr1 hr hc0 hc1 b0 b1
 have n0 : (0 : Int) ≤ (n : Int) := by omega
 have hmk := fun w => run_make_row' (P := Tryz.prog) 32 5 (.int .u8 0) 1 Tryz.underlying32 Tryz.infoU8 rfl .i64 .i64 n (by omega) (by omega) w
 go_enter Tryz.func87, Tryz.ntmps87
 go_wp2
 clear hmk
 go_loopg [16] l0.length (fun kq v16 w' => ∃ (i : Nat) (l : List Int), v16 = .int .i64 i ∧ i + kq = l0.length ∧ Aside0 (tout l1 (l0.drop i) i l = r) ∧ Aside0 (l.length = n) ∧ Aside0 (Boxes w.heap.size A0 l0.length c0 A1 l1.length c1 n w') ∧ Aside0 (Kd.R (Kd.int .u8) 5 w' w.heap.size (fun _ => True) (.slice (some ⟨w.heap.size + 1 + 1 + 1, 0, none⟩) n n) l) ∧ Aside0 (Below w.heap.size w w'))
 case atStart =>
  refine ⟨0, List.replicate n 0, rfl, by omega, ⟨HH.out⟩, ⟨List.length_replicate⟩, ⟨?_⟩, ⟨?_⟩, ⟨?_⟩⟩
  ·exact times_boxes _ _ _ _ _ _ _ _ _
  ·exact R_made (by omega) (times_row _ _ _ _ _ _ _) (by unfold maxLen; omega)
  ·exact ((((((Below.refl _ _).alloc (Nat.le_refl _) _).alloc (by simp) _).alloc (by first | (simp; done) | (simp; omega)) _).alloc (by first | (simp; done) | (simp; omega)) _).alloc (by first | (simp; done) | (simp; omega)) _)
 case round =>
  obtain ⟨i, l, rfl, hi, HT, HL, HX, HO, HB⟩ := hrel
  by_cases hlt : i < l0.length
  ·have d1 : decide ((i : Int) < (l0.length : Int)) = true := decide_eq_true (by omega)
   obtain ⟨x1, x2, x3, x4⟩ := HX.out
   have y1 := cell_of_one x1
   have y2 := cell_of_one x2
   clear x1 x2 x3 x4
   go_wp2
   clear y1 y2
   go_loopg [21] l1.length (fun kq v21 w' => ∃ (k : Nat) (l : List Int), v21 = .int .i64 k ∧ k + kq = l1.length ∧ Aside0 (tout l1 (l0.drop (i + 1)) (i + 1) (tin (rd l0 i) (l1.drop k) (i + k) l) = r) ∧ Aside0 (l.length = n) ∧ Aside0 (Boxes w.heap.size A0 l0.length c0 A1 l1.length c1 n w') ∧ Aside0 (Kd.R (Kd.int .u8) 5 w' w.heap.size (fun _ => True) (.slice (some ⟨w.heap.size + 1 + 1 + 1, 0, none⟩) n n) l) ∧ Aside0 (Below w.heap.size w w'))
   case atStart => exact ⟨0, l, rfl, by omega, ⟨by have := HT.out; rw [drop_rd i hlt] at this; exact this⟩, HL, HX, HO, HB⟩
   case round =>
    clear HT HL HX HO HB
    obtain ⟨k, l, rfl, hk, HT, HL, HX, HO, HB⟩ := hrel
    by_cases hkt : k < l1.length
    ·have d2 : decide ((k : Int) < (l1.length : Int)) = true := decide_eq_true (by omega)
     by_cases hin : i + k < n
     ·obtain ⟨ax, ex, hx0⟩ := Kd.at_int HR0.out (i : Int) (by omega) (by omega)
      obtain ⟨ay, ey, hy0⟩ := Kd.at_int HR1.out (k : Int) (by omega) (by omega)
      obtain ⟨hz0, hf0⟩ := Kd.R_celln 0 HO.out ((i + k : Nat) : Int) (by omega) (by omega)
      rw [Int.toNat_natCast] at hx0 hy0 hz0 hf0
      have hx := (HB.out.cell (World.block_lt_of_cell? w _ hx0)).trans hx0
      have hy := (HB.out.cell (World.block_lt_of_cell? w _ hy0)).trans hy0
      have HX1 := hid hx
      have HX2 := hid hy
      have HX3 := hid hz0
      have HX4 := hid hf0
      have HX5 := hid ex
      have HX6 := hid ey
      clear hx hy hx0 hy0 hz0 hf0 ex ey
      go_wp2_with (go_at_call 124; refine (times1_does i k n (rd l0 i) (rd l1 k) (rdOf 0 l ((i + k : Nat) : Int)) _ (w.heap.size + 1 + 1) (w.heap.size + 1 + 1 + 1 + 1) w.heap.size (w.heap.size + 1) (w.heap.size + 1 + 1 + 1) n n l0.length c0 l1.length c1 ax ay _ (by omega) (by omega) HX.out.2.2.1 HX.out.2.2.2 (by have := HX.out.1; rw [HX5.out] at this; exact this) (by have := HX.out.2.1; rw [HX6.out] at this; exact this) (by omega) hin hlt hkt HX1.out HX2.out HX3.out HX4.out (label_mul.some (bytesB_rd HB0.out i hlt) (bytesB_rd HB1.out k hkt))).mono ?_; rintro e w2 ⟨rfl, w1, hB, rfl⟩; have B1 := Aside0.mk hB; clear hB)
      go_roundg (l1.length - (k + 1))
      case rel =>
       have e1 : k + (1 : Nat) = k + 1 := rfl
       refine ⟨k + 1, l.set (i + k) (Go.bits .xor .u8 (rd l (i + k : Nat)) (Rs.mulN (rd l0 i).toNat (rd l1 k).toNat : Nat)), by go_num, by omega, ⟨by have := HT.out; rw [drop_rd k hkt] at this; exact this⟩, ⟨by rw [List.length_set]; exact HL.out⟩, ⟨?_⟩, ⟨?_⟩, ⟨?_⟩⟩
       ·obtain ⟨x1, x2, x3, x4⟩ := HX.out
        exact ⟨blk_far ((B1.out.block _ (Boxes.lt HX.out).1).trans x1) (by dsimp only; omega) _, blk_far ((B1.out.block _ (Boxes.lt HX.out).2.1).trans x2) (by dsimp only; omega) _, blk_far ((B1.out.block _ (Boxes.lt HX.out).2.2.1).trans x3) (by dsimp only; omega) _, blk_far ((B1.out.block _ (Boxes.lt HX.out).2.2.2).trans x4) (by dsimp only; omega) _⟩
       ·have := Kd.R_putn (Kd.R_below HO.out B1.out) ((i + k : Nat) : Int) (Go.bits .xor .u8 (rd l (i + k : Nat)) (Rs.mulN (rd l0 i).toNat (rd l1 k).toNat : Nat))
        rw [Int.toNat_natCast] at this
        exact this
       ·exact (HB.out.trans (B1.out.mono HB.out.size)).setCell (by dsimp only; omega) _
      case measure => omega
     ·go_wp2_with (go_at_call 124; refine (times1_skip i k n (w.heap.size + 1 + 1) (w.heap.size + 1 + 1 + 1 + 1) w.heap.size (w.heap.size + 1) _ (by omega) (by omega) HX.out.2.2.1 (by omega)).mono ?_; rintro e w2 ⟨rfl, ⟨nd, rfl⟩⟩)
      go_roundg (l1.length - (k + 1))
      case rel => exact ⟨k + 1, l, by go_num, by omega, ⟨by have := HT.out; rw [drop_rd k hkt] at this; unfold tin at this; rw [set_out _ _ (by have := HL.out; omega)] at this; exact this⟩, HL, ⟨HX.out⟩, ⟨Kd.R_drewN HO.out _⟩, ⟨pw_below_drewN HB.out _⟩⟩
      case measure => omega
    ·have d2 : decide ((k : Int) < (l1.length : Int)) = false := decide_eq_false (by omega)
     go_wp2
     go_roundg (l0.length - (i + 1))
     case rel => exact ⟨i + 1, l, by go_num, by omega, ⟨by have := HT.out; have e : l1.drop k = [] := List.drop_eq_nil_of_le (by omega); rw [e] at this; exact this⟩, HL, HX, HO, HB⟩
     case measure => omega
  ·have d1 : decide ((i : Int) < (l0.length : Int)) = false := decide_eq_false (by omega)
   have y4 := cell_of_one HX.out.2.2.2
   go_wp2
   go_ret
   exact ⟨_, rfl, by have h1 := HT.out; have e : l0.drop i = [] := List.drop_eq_nil_of_le (by omega); rw [e] at h1; exact h1 ▸ HO.out, HB.out⟩
theorem label_times.calls (A0 : Option Addr) (c0 : Nat) (l0 : List Int) (A1 : Option Addr) (c1 : Nat) (l1 : List Int) (a2 : Int) (r : List Int) (w : World) (hr0 : Kd.C (Kd.int .u8) w A0 l0.length l0) (hc0 : l0.length ≤ c0) (hr1 : Kd.C (Kd.int .u8) w A1 l1.length l1) (hc1 : l1.length ≤ c1) (h : label_times.f l0 l1 a2 = some r) :
  Calls Tryz.prog 87 #[.slice A0 l0.length c0, .slice A1 l1.length c1, .int .i64 a2] w fun e w' => ∃ v0_ : Value, e = .returned (v0_) ∧ Kd.R (Kd.int .u8) 5 w' w.heap.size (fun _ => True) v0_ r ∧ Below w.heap.size w w' := by
 unfold label_times.f at h
 by_cases hc : 0 ≤ a2 ∧ a2 ≤ 100000 ∧ (l0.length : Int) ≤ 100000 ∧ (l1.length : Int) ≤ 100000 ∧ bytesB l0 = true ∧ bytesB l1 = true
 ·rw [if_pos hc] at h
  obtain rfl := Option.some.inj h
  obtain ⟨h0, h1, h2, h3, h4, h5⟩ := hc
  obtain ⟨n, rfl⟩ := Int.eq_ofNat_of_zero_le h0
  exact times_walk A0 c0 l0 A1 c1 l1 n _ w hr0 hc0 hr1 hc1 h1 h2 h3 h4 h5 rfl
 ·rw [if_neg hc] at h; exact absurd h (by simp)
end Go.Proofs.YtiioklboaookiaaGreatDoor.Hand
namespace Go.Proofs.YtiioklboaookiaaGreatDoor.Hand
open Go.RowKit Go.Proofs.YtiioklboaookiaaGreatDoorW.PrintWords Go.Proofs.YtiioklboaookiaaGreatDoorW.PrintLast Go.Proofs.YtiioklboaookiaaGreatDoorW.PrintMore
open Rs (xt pw_bd lg_pw pw_lg pw_mod)
attribute [local go_sem] max2_int min2_int max_two min_two max_three min_three max_four min_four
set_option linter.unusedVariables false
set_option linter.unusedSimpArgs false
theorem xor_nat (k : IntKind) (j : Nat) (hj : j ≤ k.bits) (hk : ∀ n : Int, 0 ≤ n → n < 2 ^ j → k.wrap n = n) (a b : Nat) (ha : a < 2 ^ j) (hb : b < 2 ^ j) :
  Go.bits .xor k a b = ((a ^^^ b : Nat) : Int) := by
 have hp : 2 ^ j ≤ 2 ^ k.bits := Nat.pow_le_pow_right (by decide) hj
 have ha' : a % 2 ^ k.bits = a := Nat.mod_eq_of_lt (Nat.lt_of_lt_of_le ha hp)
 have hb' : b % 2 ^ k.bits = b := Nat.mod_eq_of_lt (Nat.lt_of_lt_of_le hb hp)
 have cast : ∀ n : Nat, n < 2 ^ j → ((n : Nat) : Int) < 2 ^ j := fun n h => by exact_mod_cast h
 simp only [Go.bits, BitVec.ofInt_natCast, BitVec.toNat_xor, BitVec.toNat_ofNat, ha', hb']
 exact hk _ (Int.natCast_nonneg _) (cast _ (Nat.xor_lt_two_pow ha hb))
theorem xor8 (a b : Nat) (ha : a < 256) (hb : b < 256) : Go.bits .xor .u8 (a : Int) (b : Int) = ((a ^^^ b : Nat) : Int) := xor_nat .u8 8 (by decide) wraps_u8 a b ha hb
theorem xor_in8 {x y : Int} (hx : in8 x = true) (hy : in8 y = true) : in8 (Go.bits .xor .u8 x y) = true := by
 obtain ⟨a, rfl, ha⟩ := in8_nat hx
 obtain ⟨b, rfl, hb⟩ := in8_nat hy
 rw [xor8 a b ha hb]
 have : a ^^^ b < 256 := Nat.xor_lt_two_pow (n := 8) ha hb
 exact decide_eq_true (by omega)
theorem bytesB_set {l : List Int} (h : bytesB l = true) (i : Nat) {v : Int} (hv : in8 v = true) : bytesB (l.set i v) = true := by
 refine List.all_eq_true.2 fun x hx => ?_
 rcases List.mem_or_eq_of_mem_set hx with h1 | h1
 ·exact List.all_eq_true.1 h x h1
 ·rw [h1]; exact hv
theorem bytesB_append {l m : List Int} (h : bytesB l = true) (h' : bytesB m = true) : bytesB (l ++ m) = true := by unfold bytesB; rw [List.all_append, show l.all in8 = true from h, show m.all in8 = true from h']; rfl
theorem bytesB_zeros (n : Nat) : bytesB (List.replicate n 0) = true := List.all_eq_true.2 fun x hx => by rw [(List.mem_replicate.1 hx).2]; rfl
theorem bytesB_bytesOf (s : ByteArray) : bytesB (bytesOf s) = true := List.all_eq_true.2 fun x hx => by
 obtain ⟨b, _, rfl⟩ := List.mem_map.1 hx
 exact decide_eq_true (by have := b.toNat_lt; omega)
section
variable {P : Program} {ops : Array Oper} {rest : List Oper} {o : Oper} {a : Act} {Q : Exit → Act → World → Prop}
theorem R_copy_str {w0 W : World} (base : Nat) (hgd : o.guard = none) (s x : Operand) (t t' e : TypeId)
  (ho : o.op = .call { callee := .builtin .copy, args := #[s, x], argTypes := #[t, t'] }) (ht : P.underlying t = some (.slice e)) (hinfo : (P.info? e).map (·.size) = some 1)
  (v : Value) (xs : List Int) (y : ByteArray) (ok : Nat → Prop) (hs : a.eval s = v) (hx : a.eval x = .string y)
  (HO : (Kd.int .u8).R e W base ok v xs) (hl : y.size ≤ xs.length) (HB : Below base w0 W) (hbase : base ≤ W.heap.size)
  (h : ∀ w1, (Kd.int .u8).R e w1 base ok v (bytesOf y ++ xs.drop y.size) → Below base w0 w1 → wpList P ops Q rest (a.put o.dst (.int .i64 (y.size : Int))) w1) :
  wpList P ops Q (o :: rest) a W := by
 have hown := Kd.own_of_R (enc := Value.int .u8) (h1 := fun _ => rfl) HO
 have fin : ∀ w1, (Builtin.copy_ #[t, t'] o.type #[v, .string y]).run P W = .ok (goInt (y.size : Int)) w1 → (Kd.int .u8).R e w1 base ok v (bytesOf y ++ xs.drop y.size) → Below base w0 w1 → wpList P ops Q (o :: rest) a W := by
  intro w1 hr hrow hb
  refine wpList_plain hgd fun K hK => ?_
  unfold Oper.wp execOp
  simp only [ho, resolve, invoke, builtin, Sem.run_bind, Sem.run_pure, Result.andThen_ok, List.map_toArray, List.map_cons, List.map_nil, hs, hx, hr]
  exact hK _ _ (h w1 hrow hb)
 rcases hown.2 with ⟨hv, h0⟩ | ⟨g, cap, cur, hv, hb, hh, hnc, hcm, hcs, htake⟩
 ·refine fin W ?_ ?_ HB
  ·rw [hv, show y.size = 0 from by omega]
   exact Lib.run_copy_empty_string W t t' o.type e _ _ _ y ht (by rw [hinfo]; rfl) (by omega)
  ·have e0 : bytesOf y = [] := List.eq_nil_of_length_eq_zero (by rw [bytesOf_length]; omega)
   rw [e0, show y.size = 0 from by omega]; exact HO
 ·have hr := Lib.run_copy_row_string (P := P) W t t' o.type e g 0 xs.length cap y cur e ht hinfo hh hl (by omega)
  have hnew : bytesOf y ++ xs.drop y.size = bytesOf y ++ xs.drop y.size := rfl
  refine fin _ (by rw [hv]; exact hr) ?_ (below_setRow HB hb _)
  refine Kd.R_of_own (h1 := fun _ => rfl) ?_ HO.1
  have hbl : (bytesOf y).length = y.size := bytesOf_length y
  have hlen : (bytesOf y ++ xs.drop y.size).length = xs.length := by rw [List.length_append, List.length_drop, hbl]; omega
  rw [hlen]
  have hbc : (Lib.byteCells y.data.toList).length = y.size := by rw [Lib.byteCells_length, ← Lib.size_eq]
  refine ⟨by rw [encs_length, hlen, Nat.mul_one], .inr ⟨g, cap, _, hv, hb, setRow_heap W g cur _ e _ hh, hnc, hcm, ?_, ?_⟩⟩
  ·simp only [List.size_toArray, List.length_append, List.length_take, List.length_drop, hbc, Array.length_toList]
   omega
  ·rw [Nat.mul_one] at htake ⊢
   simp only [List.take_zero, List.nil_append, Nat.zero_add]
   rw [List.take_append, hbc, List.take_of_length_le (by rw [hbc]; exact hl), encs_append]
   congr 1
   ·simp only [encs, bytesOf, Lib.byteCells, List.map_map]; rfl
   ·have : encs (Value.int .u8) (xs.drop y.size) = (encs (Value.int .u8) xs).drop y.size := by simp [encs, List.map_drop]
    rw [this, ← htake, List.drop_take]
end
theorem strOfNums_size (l : List Int) : (strOfNums l).size = l.length := by show ((l.map fun n => UInt8.ofNat n.toNat).toArray).size = _; simp
end Go.Proofs.YtiioklboaookiaaGreatDoor.Hand
namespace Go.Proofs.YtiioklboaookiaaGreatDoor.Hand
open Go.RowKit Go.Proofs.YtiioklboaookiaaGreatDoorW.PrintWords Go.Proofs.YtiioklboaookiaaGreatDoorW.PrintLast Go.Proofs.YtiioklboaookiaaGreatDoorW.PrintMore
open Rs (xt pw_bd lg_pw pw_lg pw_mod)
attribute [local go_sem] max2_int min2_int max_two min_two max_three min_three max_four min_four
set_option linter.unusedVariables false
set_option linter.unusedSimpArgs false
theorem Tryz.infoInt : (Tryz.prog.info? 3).map (fun i => (i.zero, i.size, i.bytes)) = some (some (.int .i64 0), 1, 8) := by kernel_rfl
def spL (n : Int) : List Int → List Int → Option (List Int)
 | [], out => some out
 | i :: l, out => if i < 0 ∨ n ≤ i then none else if i ∈ out then spL n l out else spL n l (out ++ [i])
def label_spots.f (l0 : List Int) (a1 : Int) : Option (List Int × Bool) :=
 if (l0.length : Int) > 255 then some ([], false) else if 0 ≤ a1 ∧ a1 ≤ 255 then
  (match spL a1 l0 [] with
   | none => some ([], false)
   | some out => some (out, true)) else none
def zbools : Array Value := (List.replicate 255 (Value.bool false)).toArray
theorem zero255 (w : World) : Sem.run Tryz.prog (zeroValue 197) w = .ok (.agg zbools) w := by kernel_rfl
def SeenB (b : Nat) (out : List Int) (w : World) : Prop := ∃ C : Array Value, w.heap[b]? = some (.cells C 197 (0, 0)) ∧ ∀ j : Nat, j < 255 → C[j]? = some (.bool (decide ((j : Int) ∈ out)))
theorem SeenB.cell {b : Nat} {out : List Int} {w : World} (h : SeenB b out w) (j : Nat) (hj : j < 255) : w.cell? ⟨b, j, none⟩ = some (.bool (decide ((j : Int) ∈ out))) := by
 obtain ⟨C, h1, h2⟩ := h; simp [World.cell?, h1, h2 j hj]
theorem SeenB.free {b : Nat} {out : List Int} {w : World} (h : SeenB b out w) (j : Nat) : w.frozen? ⟨b, j, none⟩ = false := by
 obtain ⟨C, h1, h2⟩ := h; simp [World.frozen?, h1]
theorem SeenB.start (w : World) : SeenB w.heap.size [] (w.alloc (.cells zbools 197)) := by
 refine ⟨zbools, heap_new _ _ _ rfl, fun j hj => ?_⟩
 unfold zbools; rw [List.getElem?_toArray, List.getElem?_replicate, if_pos hj]; rfl
theorem SeenB.put {b : Nat} {out : List Int} {w : World} (h : SeenB b out w) (j : Nat) (hj : j < 255) : SeenB b (out ++ [(j : Int)]) (w.setCell ⟨b, j, none⟩ (.bool true)) := by
 obtain ⟨C, h1, h2⟩ := h
 refine ⟨C.setIfInBounds j (.bool true), blk_set h1 j _, fun k hk => ?_⟩
 have hs : j < C.size := lt_of_some (h2 j hj)
 rw [Array.getElem?_setIfInBounds]
 by_cases e : j = k
 ·subst e; simp [hs]
 ·rw [if_neg e, h2 k hk]
  congr 2
  simp only [List.mem_append, List.mem_singleton, decide_eq_decide]
  constructor
  ·exact .inl
  ·rintro (h | h)
   ·exact h
   ·omega
theorem SeenB.drew {b : Nat} {out : List Int} {w : World} (h : SeenB b out w) : SeenB b out w.drew := h
theorem SeenB.step {b : Nat} {out : List Int} {w w1 : World} (h : SeenB b out w) (he : w1.heap[b]? = w.heap[b]?) : SeenB b out w1 := by obtain ⟨C, h1, h2⟩ := h; exact ⟨C, he.trans h1, h2⟩
theorem SeenB.lt {b : Nat} {out : List Int} {w : World} (h : SeenB b out w) : b < w.heap.size := by obtain ⟨C, h1, h2⟩ := h; exact lt_of_some h1
theorem SeenB.ne {b : Nat} {out xs : List Int} {w : World} {base : Nat} {ok : Nat → Prop} {v : Value} (h : SeenB b out w) (hr : Kd.R (Kd.int .i64) 3 w base ok v xs) : some b ≠ v.ownBlock := by
 obtain ⟨C, h1, h2⟩ := h; exact Kd.R_ne hr h1 (by decide)
set_option maxHeartbeats 1000000 in
set_option maxRecDepth 100000 in
theorem spots_long (A0 : Option Addr) (c0 : Nat) (l0 : List Int) (a1 : Int) (w : World) (h : (l0.length : Int) > 255) :
  Calls Tryz.prog 55 #[.slice A0 l0.length c0, .int .i64 a1] w fun e w' => ∃ v0_ : Value, e = .returned (.tuple #[v0_, .bool false]) ∧ Kd.R (Kd.int .i64) 3 w' w.heap.size (fun _ => True) v0_ [] ∧ Below w.heap.size w w' := by
 have d0 : decide (255 < (l0.length : Int)) = true := decide_eq_true h
 clear h
 go_enter Tryz.func55, Tryz.ntmps55
 go_wp2
 go_ret2
 exact ⟨_, rfl, Kd.R_nil _ _ _ _ _, Below.refl _ _⟩
set_option maxHeartbeats 4000000 in
set_option maxRecDepth 100000 in
theorem spots_walk (A0 : Option Addr) (c0 : Nat) (l0 : List Int) (a1 : Int) (r : List Int) (b : Bool) (w : World) (hr0 : Kd.C (Kd.int .i64) w A0 l0.length l0) (hl : (l0.length : Int) ≤ 255) (h0 : 0 ≤ a1) (h1 : a1 ≤ 255)
  (hr : (match spL a1 l0 [] with | none => ([], false) | some out => (out, true)) = (r, b)) :
  Calls Tryz.prog 55 #[.slice A0 l0.length c0, .int .i64 a1] w fun e w' => ∃ v0_ : Value, e = .returned (.tuple #[v0_, .bool b]) ∧ Kd.R (Kd.int .i64) 3 w' w.heap.size (fun _ => True) v0_ r ∧ Below w.heap.size w w' := by
 have d0 : decide (255 < (l0.length : Int)) = false := decide_eq_false (by omega)
 have HR0 := Aside0.mk hr0
 have HR := hid hr
 clear hr0 hr
 have hz := zero255
 go_enter Tryz.func55, Tryz.ntmps55
 go_wp2
 clear hz
 go_loopg [6, 15] l0.length (fun kq v6 v15 w' => ∃ (i : Nat) (out : List Int), v15 = .int .i64 i ∧ i + kq = l0.length ∧ Aside0 ((match spL a1 (l0.drop i) out with | none => ([], false) | some out => (out, true)) = (r, b)) ∧ Aside0 (out.length ≤ i) ∧ Aside0 (SeenB w.heap.size out w') ∧ Aside0 (Kd.R (Kd.int .i64) 3 w' w.heap.size (fun _ => True) v6 out) ∧ Aside0 (Below w.heap.size w w'))
 case atStart => exact ⟨0, [], rfl, by omega, ⟨HR.out⟩, ⟨Nat.le_refl _⟩, ⟨SeenB.start w⟩, ⟨Kd.R_nil _ _ _ _ _⟩, ⟨(Below.refl _ _).alloc (Nat.le_refl _) _⟩⟩
 case round =>
  obtain ⟨i, out, rfl, hi, HT, HLN, HS, HO, HB⟩ := hrel
  by_cases hlt : i < l0.length
  ·have d1 : decide ((i : Int) < (l0.length : Int)) = true := decide_eq_true (by omega)
   obtain ⟨ad, e0, hx0⟩ := Kd.at_int HR0.out (i : Int) (by omega) (by omega)
   rw [Int.toNat_natCast] at hx0
   have hx := (HB.out.cell (World.block_lt_of_cell? w _ hx0)).trans hx0
   cases e0
   clear hx0
   have hlt' : (i : Int) < (l0.length : Int) := by omega
   have i0 : (0 : Int) ≤ (i : Int) := by omega
   have hdr := drop_rd i hlt
   obtain ⟨x, hxx⟩ : ∃ x, x = rd l0 (i : Int) := ⟨_, rfl⟩
   rw [← hxx] at hx hdr
   have HDR := hid hdr
   clear hdr hxx
   by_cases b0 : x < 0
   ·have d2 : decide (x < 0) = true := decide_eq_true b0
    go_wp2
    go_ret2
    have h := HT.out
    rw [HDR.out] at h
    unfold spL at h
    rw [if_pos (.inl b0)] at h
    cases h
    exact ⟨_, rfl, Kd.R_nil _ _ _ _ _, HB.out⟩
   ·have d2 : decide (x < 0) = false := decide_eq_false b0
    by_cases b1 : a1 ≤ x
    ·have d3 : decide (a1 ≤ x) = true := decide_eq_true b1
     go_wp2
     go_ret2
     have h := HT.out
     rw [HDR.out] at h
     unfold spL at h
     rw [if_pos (.inr b1)] at h
     cases h
     exact ⟨_, rfl, Kd.R_nil _ _ _ _ _, HB.out⟩
    ·have d3 : decide (a1 ≤ x) = false := decide_eq_false b1
     obtain ⟨j, rfl⟩ := Int.eq_ofNat_of_zero_le (show 0 ≤ x by omega)
     have HA := hid (show ¬ ((j : Int) < 0 ∨ a1 ≤ (j : Int)) by omega)
     have hj : j < 255 := by omega
     have hj1 : (j : Int) < 255 := by omega
     have hj0 : (0 : Int) ≤ (j : Int) := by omega
     have hs := HS.out.cell j hj
     have hf := HS.out.free j
     by_cases hm : (j : Int) ∈ out
     ·rw [decide_eq_true hm] at hs
      have HM := hid hm
      clear hm b0 b1
      go_wp2
      go_roundg (l0.length - (i + 1))
      case rel =>
       refine ⟨i + 1, out, by go_num, by omega, ⟨?_⟩, ⟨by have := HLN.out; omega⟩, HS, HO, HB⟩
       have h := HT.out
       rw [HDR.out] at h
       unfold spL at h
       rw [if_neg HA.out, if_pos HM.out] at h
       exact h
      case measure => omega
     ·rw [decide_eq_false hm] at hs
      have HM := hid hm
      clear hm b0 b1
      obtain ⟨Ao, co, eo⟩ := Kd.R_slice HO.out
      subst eo
      obtain ⟨C, hC1, hC2⟩ := HS.out
      have HO2 := Aside0.mk (Kd.R_set HO.out hC1 (by decide) j (.bool true))
      have HB2 := Aside0.mk (HB.out.setCell (p := ⟨w.heap.size, j, none⟩) (Nat.le_refl _) (.bool true))
      have HS2 := Aside0.mk (HS.out.put j hj)
      clear hC1 hC2
      go_wp2_with ((with_reducible refine gate_builtin (b := .append) (xs := #[.tmp 32, .tmp 34]) rfl ?_); at_builtin; refine Kd.R_append (Kd.int .i64) (w0 := w) w.heap.size rfl (.tmp 32) (.tmp 34) 43 3 (.int .i64 0) 8 rfl Tryz.underlying43 Tryz.infoInt rfl (by decide) (by omega) (.slice Ao out.length co) out (j : Int) [.int .i64 j] (fun _ => True) (fun _ => False) rfl (by first | (go_simp; done) | (go_simp; rfl)) ?aP (fun _ hk => hk.elim) ?aF ?aO ?aB ?aS ?aL ?_; (case aP => exact rfl); (case aB => exact HB2.out); (case aF => exact (fun _ _ => trivial)); (case aO => exact HO2.out); (case aS => exact HB2.out.size); (case aL => have := HLN.out; omega); intro v1 w9 ho hb hg hat; have HO1 := Aside0.mk ho; have HB1 := Aside0.mk hb; have HG1 := Aside0.mk hg; clear ho hb hg hat)
      go_roundg (l0.length - (i + 1))
      case rel =>
       refine ⟨i + 1, out ++ [(j : Int)], by go_num, by omega, ⟨?_⟩, ⟨by have := HLN.out; rw [List.length_append, List.length_singleton]; omega⟩, ⟨?_⟩, HO1, HB1⟩
       ·have h := HT.out
        rw [HDR.out] at h
        unfold spL at h
        rw [if_neg HA.out, if_neg HM.out] at h
        exact h
       ·exact HS2.out.step (HG1.out.block _ HS2.out.lt (HS2.out.ne HO2.out))
      case measure => omega
  ·have d1 : decide ((i : Int) < (l0.length : Int)) = false := decide_eq_false (by omega)
   go_wp2
   go_ret2
   have h := HT.out
   rw [List.drop_eq_nil_of_le (by omega)] at h
   cases h
   exact ⟨_, rfl, HO.out, HB.out⟩
theorem label_spots.calls (A0 : Option Addr) (c0 : Nat) (l0 : List Int) (a1 : Int) (r1 : List Int) (r2 : Bool) (w : World) (hr0 : Kd.C (Kd.int .i64) w A0 l0.length l0) (hc0 : l0.length ≤ c0) (h : label_spots.f l0 a1 = some (r1, r2)) :
  Calls Tryz.prog 55 #[.slice A0 l0.length c0, .int .i64 a1] w fun e w' => ∃ v0_ : Value, e = .returned (.tuple #[v0_, .bool r2]) ∧ Kd.R (Kd.int .i64) 3 w' w.heap.size (fun _ => True) v0_ r1 ∧ Below w.heap.size w w' := by
 unfold label_spots.f at h
 by_cases h0 : (l0.length : Int) > 255
 ·rw [if_pos h0] at h
  cases h
  exact spots_long A0 c0 l0 a1 w h0
 ·rw [if_neg h0] at h
  by_cases h1 : 0 ≤ a1 ∧ a1 ≤ 255
  ·rw [if_pos h1] at h
   refine spots_walk A0 c0 l0 a1 r1 r2 w hr0 (by omega) h1.1 h1.2 ?_
   revert h
   cases spL a1 l0 [] <;> intro h <;> cases h <;> rfl
  ·rw [if_neg h1] at h; exact absurd h (by simp)
theorem zeroBool (w : World) : (zeroValue 4).run Tryz.prog w = .ok (.bool false) w := by kernel_rfl
theorem plainElem_bool_inv {H : Type} {P : Program} {e : TypeId} (he : P.underlying e = some .bool) {v : Value} {z : DataW H × List MemPlace} (h : plainElem P e v = some z) : ∃ c, v = .bool c ∧ z = (.lit (.bool c), []) := by
 cases v with
 | bool c => rw [plainElem_bool he] at h; exact ⟨c, rfl, (Option.some.inj h).symm⟩
 | _ => simp [plainElem, he] at h
def MapIs (b n : Nat) (l : List Int) (w : World) : Prop := ∃ D : DataW Unit, w.ownsMap Tryz.prog 3 (plainElem Tryz.prog 4) b n D ∧ Maps.IsMap D ∧ ∀ x : Int, D.atKey (.int .i64 x) (.lit (.bool false)) = .lit (.bool (decide (x ∈ l)))
set_option maxRecDepth 100000 in
theorem MapIs.look {b n : Nat} {l : List Int} {w : World} (h : MapIs b n l w) (x : Int) (hx : (Lit.int .i64 x).wf = true) :
  (Instr.lookup 107 (.map (some b)) (.int .i64 x) false).run Tryz.prog w = .ok (.bool (decide (x ∈ l))) w := by
 obtain ⟨D, h1, h2, h3⟩ := h
 obtain ⟨v, ps, hr, hv⟩ := h1.lookup (Maps.int_keyed Tryz.underlying3) Tryz.underlying107 (zeroBool w) (plainElem_bool Tryz.underlying4 false) (Maps.keyOf_int_mk Tryz.underlying3 hx)
 obtain ⟨c, rfl, hc⟩ := plainElem_bool_inv Tryz.underlying4 hv
 have h4 := h3 x
 rw [(Prod.mk.inj hc).1] at h4
 injection h4 with h4
 injection h4 with h4
 rw [hr, h4]
theorem MapIs.put {b n : Nat} {l : List Int} {D : DataW Unit} {w' : World} (h2 : Maps.IsMap D) (h3 : ∀ x : Int, D.atKey (.int .i64 x) (.lit (.bool false)) = .lit (.bool (decide (x ∈ l)))) (x : Int)
  (h1 : w'.ownsMap Tryz.prog 3 (plainElem Tryz.prog 4) b n (D.put (.int .i64 x) (.lit (.bool true)))) : MapIs b n (l ++ [x]) w' := by
 refine ⟨_, h1, h2.put _ _, fun y => ?_⟩
 by_cases e : y = x
 ·subst e; rw [Maps.atKey_put_same (k := .int .i64 y) h2 trivial]; simp
 ·rw [Maps.atKey_put_other (fun h => e (by injection h)), h3 y]
  simp [e]
theorem MapIs.start (w : World) : MapIs w.heap.size 0 [] (w.alloc (.map #[] 0)) := ⟨.map [], World.ownsMap_made _ _ _ _, Maps.isMap_empty, fun x => rfl⟩
theorem MapIs.drewN {b n : Nat} {l : List Int} {w : World} (h : MapIs b n l w) (m : Nat) : MapIs b n l (w.drewN m) := by
 obtain ⟨D, h1, h2, h3⟩ := h
 exact ⟨D, h1, h2, h3⟩
def chg (b lost : List Int) : List Int → Nat → Int → Int → Int × Int
 | [], _, al, ot => (al, ot)
 | x :: a, i, al, ot => if x = rd b i then chg b lost a (i + 1) al ot else if (i : Int) ∈ lost then chg b lost a (i + 1) (al + 1) ot else chg b lost a (i + 1) (al + 1) (ot + 1)
def smallB (l : List Int) : Bool := l.all fun x => decide (0 ≤ x ∧ x < 100000)
def label_changes.f (l0 l1 l2 : List Int) : Option (Int × Int) :=
 if l0.length ≤ l1.length ∧ (l0.length : Int) ≤ 100000 ∧ (l2.length : Int) ≤ 100000 ∧ smallB l2 = true then some (chg l1 l2 l0 0 0 0) else none
theorem smallB_rd {l : List Int} (h : smallB l = true) (i : Nat) (hi : i < l.length) : 0 ≤ rd l i ∧ rd l i < 100000 := by
 unfold rd; rw [Int.toNat_natCast, List.getD_eq_getElem?_getD, List.getElem?_eq_getElem hi]
 exact of_decide_eq_true (List.all_eq_true.1 h _ (List.getElem_mem hi))
theorem wf_small {x : Int} (h0 : -1000000 ≤ x) (h1 : x ≤ 1000000) : (Lit.int .i64 x).wf = true := by
 have : (Lit.int .i64 x).wf = true ↔ -9223372036854775808 ≤ x ∧ x ≤ 9223372036854775807 := by simp [Lit.wf, IntKind.min, IntKind.max, IntKind.signed, IntKind.bits]
 exact this.2 ⟨by omega, by omega⟩
theorem below_grown {B : Nat} {w w1 w2 : World} {row : Option Nat} (h : Below B w w1) (hg : w1.grownBy w2 row) (hB : B ≤ w1.heap.size) (hr : ∀ k, row = some k → B ≤ k) : Below B w w2 := h.grown hg hB hr
set_option maxHeartbeats 4000000 in
set_option maxRecDepth 100000 in
theorem changes_walk (A0 : Option Addr) (c0 : Nat) (l0 : List Int) (A1 : Option Addr) (c1 : Nat) (l1 : List Int) (A2 : Option Addr) (c2 : Nat) (l2 : List Int) (al ot : Int) (w : World)
  (hr0 : Kd.C (Kd.int .u8) w A0 l0.length l0) (hr1 : Kd.C (Kd.int .u8) w A1 l1.length l1) (hr2 : Kd.C (Kd.int .i64) w A2 l2.length l2)
  (hl : (l0.length : Int) ≤ (l1.length : Int)) (h0 : (l0.length : Int) ≤ 100000) (h2 : (l2.length : Int) ≤ 100000) (hs : smallB l2 = true) (hr : chg l1 l2 l0 0 0 0 = (al, ot)) :
  Calls Tryz.prog 61 #[.slice A0 l0.length c0, .slice A1 l1.length c1, .slice A2 l2.length c2] w fun e w' => e = .returned (.tuple #[.int .i64 al, .int .i64 ot]) ∧ Below w.heap.size w w' := by
 have HR0 := Aside0.mk hr0
 have HR1 := Aside0.mk hr1
 have HR2 := Aside0.mk hr2
 have HS := hid hs
 have HR := hid hr
 clear hr0 hr1 hr2 hr hs
 have hmm := @run_makeMap Tryz.prog
 go_enter Tryz.func61, Tryz.ntmps61
 go_wp2
 clear hmm
 go_loopg [17] l2.length (fun kq v17 w' => ∃ (i : Nat), v17 = .int .i64 i ∧ i + kq = l2.length ∧ Aside0 (MapIs w.heap.size i (l2.take i) w') ∧ Aside0 (Below w.heap.size w w'))
 case atStart => exact ⟨0, rfl, by omega, ⟨MapIs.start w⟩, ⟨(Below.refl _ _).alloc (Nat.le_refl _) _⟩⟩
 case round =>
  obtain ⟨i, rfl, hi, HM, HB⟩ := hrel
  by_cases hlt : i < l2.length
  ·have d1 : decide ((i : Int) < (l2.length : Int)) = true := decide_eq_true (by omega)
   obtain ⟨ad, e0, hx0⟩ := Kd.at_int HR2.out (i : Int) (by omega) (by omega)
   rw [Int.toNat_natCast] at hx0
   have hx := (HB.out.cell (World.block_lt_of_cell? w _ hx0)).trans hx0
   cases e0
   have hlt' : (i : Int) < (l2.length : Int) := by omega
   have i0 : (0 : Int) ≤ (i : Int) := by omega
   have hsm := smallB_rd HS.out i hlt
   obtain ⟨x, hxx⟩ : ∃ x, x = rd l2 (i : Int) := ⟨_, rfl⟩
   rw [← hxx] at hx hsm
   have HXX := hid hxx
   have hk := hid (Maps.keyOf_int_mk Tryz.underlying3 (wf_small (x := x) (by omega) (by omega)))
   have hv := hid (plainElem_bool (H := Unit) Tryz.underlying4 true)
   obtain ⟨D, hD1, hD2, hD3⟩ := HM.out
   have HD1 := hid hD1
   have HD2 := hid hD2
   have HD3 := hid hD3
   have hmx := hid (show i < maxLen by unfold maxLen; omega)
   clear hx0 hD1 hD2 hD3 hxx hsm
   go_wp2_with (at_mapUpdate; refine wpList_mapUpdate_own _ rfl _ _ _ 107 rfl 3 4 (Maps.int_keyed Tryz.underlying3) Tryz.underlying107 _ w.heap.size i D rfl HD1.out hmx.out _ _ (.int .i64 x) rfl rfl hk.out (.lit (.bool true)) [] hv.out ?_; intro w1 hown hg; have HO1 := hid hown; have HG1 := hid hg; clear hown hg)
   go_roundg (l2.length - (i + 1))
   case rel =>
    refine ⟨i + 1, by go_num, by omega, ⟨?_⟩, ⟨below_grown HB.out HG1.out HB.out.size (fun k hk => by injection hk with hk; omega)⟩⟩
    rw [List.take_succ_eq_append_getElem hlt]
    have e : l2[i] = x := by rw [HXX.out]; unfold rd; rw [Int.toNat_natCast, List.getD_eq_getElem?_getD, List.getElem?_eq_getElem hlt]; rfl
    rw [e]
    exact MapIs.put HD2.out HD3.out x HO1.out
   case measure => omega
  ·have d1 : decide ((i : Int) < (l2.length : Int)) = false := decide_eq_false (by omega)
   obtain rfl : i = l2.length := by omega
   have HM2 : Aside0 (MapIs w.heap.size l2.length l2 wr) := ⟨by have := HM.out; rwa [List.take_length] at this⟩
   clear HM
   go_wp2
   go_loopg [8, 9, 26] l0.length (fun kq v8 v9 v26 w' => ∃ (i : Nat) (a b : Int), v8 = .int .i64 a ∧ v9 = .int .i64 b ∧ v26 = .int .i64 i ∧ i + kq = l0.length ∧ 0 ≤ a ∧ a ≤ i ∧ 0 ≤ b ∧ b ≤ i ∧ Aside0 (chg l1 l2 (l0.drop i) i a b = (al, ot)) ∧ Aside0 (MapIs w.heap.size l2.length l2 w') ∧ Aside0 (Below w.heap.size w w'))
   case atStart => exact ⟨0, 0, 0, rfl, rfl, rfl, by omega, by omega, by omega, by omega, by omega, ⟨HR.out⟩, HM2, HB⟩
   case round =>
    clear HM2 HB
    obtain ⟨i, a, b, rfl, rfl, rfl, hi, ha0, ha1, hb0, hb1, HC, HM, HB⟩ := hrel
    by_cases hlt : i < l0.length
    ·have d2 : decide ((i : Int) < (l0.length : Int)) = true := decide_eq_true (by omega)
     obtain ⟨ad0, e0, hx0⟩ := Kd.at_int HR0.out (i : Int) (by omega) (by omega)
     obtain ⟨ad1, e1, hy0⟩ := Kd.at_int HR1.out (i : Int) (by omega) (by omega)
     rw [Int.toNat_natCast] at hx0 hy0
     have hx := (HB.out.cell (World.block_lt_of_cell? w _ hx0)).trans hx0
     have hy := (HB.out.cell (World.block_lt_of_cell? w _ hy0)).trans hy0
     cases e0
     cases e1
     have hl0 : (i : Int) < (l0.length : Int) := by omega
     have hl1 : (i : Int) < (l1.length : Int) := by omega
     have i0 : (0 : Int) ≤ (i : Int) := by omega
     have HDR := hid (drop_rd i hlt)
     obtain ⟨x, hxx⟩ : ∃ x, x = rd l0 (i : Int) := ⟨_, rfl⟩
     obtain ⟨y, hyy⟩ : ∃ y, y = rd l1 (i : Int) := ⟨_, rfl⟩
     rw [← hxx] at hx HDR
     rw [← hyy] at hy
     have HYY := hid hyy
     have hlk := fun m => (HM.out.drewN m).look (i : Int) (wf_small (by omega) (by omega))
     clear hxx hyy hx0 hy0
     by_cases hc : x = y
     ·have t1 : (x != y) = false := by rw [bne_eq_false_iff_eq]; exact hc
      have t2 : (x == y) = true := beq_iff_eq.2 hc
      have HCC := hid hc
      clear hc
      go_wp2
      go_quiet (fail)
      go_wp2
      go_roundg (l0.length - (i + 1))
      case rel =>
       refine ⟨i + 1, a, b, rfl, rfl, by go_num, by omega, by omega, by omega, by omega, by omega, ⟨?_⟩, ⟨HM.out.drewN _⟩, ⟨pw_below_drewN HB.out _⟩⟩
       have h := HC.out
       rw [HDR.out] at h
       unfold chg at h
       rw [← HYY.out, if_pos HCC.out] at h
       exact h
      case measure => omega
     ·have t1 : (x != y) = true := bne_iff_ne.2 hc
      have t2 : (x == y) = false := beq_eq_false_iff_ne.2 hc
      have HCC := hid hc
      clear hc
      by_cases hin : (i : Int) ∈ l2
      ·simp only [decide_eq_true hin] at hlk
       have HIN := hid hin
       clear hin
       go_wp2
       go_quiet (fail)
       go_wp2
       go_roundg (l0.length - (i + 1))
       case rel =>
        refine ⟨i + 1, a + 1, b, by go_num, rfl, by go_num, by omega, by omega, by omega, by omega, by omega, ⟨?_⟩, ⟨HM.out.drewN _⟩, ⟨pw_below_drewN HB.out _⟩⟩
        have h := HC.out
        rw [HDR.out] at h
        unfold chg at h
        rw [← HYY.out, if_neg HCC.out, if_pos HIN.out] at h
        exact h
       case measure => omega
      ·simp only [decide_eq_false hin] at hlk
       have HIN := hid hin
       clear hin
       go_wp2
       go_quiet (fail)
       go_wp2
       go_roundg (l0.length - (i + 1))
       case rel =>
        refine ⟨i + 1, a + 1, b + 1, by go_num, by go_num, by go_num, by omega, by omega, by omega, by omega, by omega, ⟨?_⟩, ⟨HM.out.drewN _⟩, ⟨pw_below_drewN HB.out _⟩⟩
        have h := HC.out
        rw [HDR.out] at h
        unfold chg at h
        rw [← HYY.out, if_neg HCC.out, if_neg HIN.out] at h
        exact h
       case measure => omega
    ·have d2 : decide ((i : Int) < (l0.length : Int)) = false := decide_eq_false (by omega)
     go_wp2
     go_ret2
     have h := HC.out
     rw [List.drop_eq_nil_of_le (by omega)] at h
     injection h with h3 h4
     subst h3
     subst h4
     exact ⟨rfl, HB.out⟩
theorem label_changes.calls (A0 : Option Addr) (c0 : Nat) (l0 : List Int) (A1 : Option Addr) (c1 : Nat) (l1 : List Int) (A2 : Option Addr) (c2 : Nat) (l2 : List Int) (r1 r2 : Int) (w : World)
  (hr0 : Kd.C (Kd.int .u8) w A0 l0.length l0) (hc0 : l0.length ≤ c0) (hr1 : Kd.C (Kd.int .u8) w A1 l1.length l1) (hc1 : l1.length ≤ c1) (hr2 : Kd.C (Kd.int .i64) w A2 l2.length l2) (hc2 : l2.length ≤ c2) (h : label_changes.f l0 l1 l2 = some (r1, r2)) :
  Calls Tryz.prog 61 #[.slice A0 l0.length c0, .slice A1 l1.length c1, .slice A2 l2.length c2] w fun e w' => e = .returned (.tuple #[.int .i64 r1, .int .i64 r2]) ∧ Below w.heap.size w w' := by
 unfold label_changes.f at h
 by_cases hc : l0.length ≤ l1.length ∧ (l0.length : Int) ≤ 100000 ∧ (l2.length : Int) ≤ 100000 ∧ smallB l2 = true
 ·rw [if_pos hc] at h
  obtain ⟨h1, h2, h3, h4⟩ := hc
  exact changes_walk A0 c0 l0 A1 c1 l1 A2 c2 l2 r1 r2 w hr0 hr1 hr2 (by omega) h2 h3 h4 (Option.some.inj h)
 ·rw [if_neg hc] at h; exact absurd h (by simp)
end Go.Proofs.YtiioklboaookiaaGreatDoor.Hand
namespace Go.Proofs.YtiioklboaookiaaGreatDoor.Q
open Go.RowKit Go.Proofs.YtiioklboaookiaaGreatDoorW.PrintWords Go.Proofs.YtiioklboaookiaaGreatDoorW.PrintLast Go.Proofs.YtiioklboaookiaaGreatDoor.Hand Go.Proofs.YtiioklboaookiaaGreatDoorW.PrintMore
attribute [local go_sem] max2_int min2_int max_two min_two max_three min_three max_four min_four
set_option linter.unusedVariables false
set_option linter.unusedSimpArgs false
def errW : Option Int → Value
 | none => .nilIface
 | some c => .iface 0 (.int .i64 c)
theorem errW_none : errW none = .nilIface := rfl
theorem errW_some (c : Int) : errW (some c) = .iface 0 (.int .i64 c) := rfl
theorem info5 : (Tryz.prog.info? 5).map (fun i => (i.zero, i.size, i.bytes)) = some (some (.int .u8 0), 1, 1) := by kernel_rfl
theorem info34 : (Tryz.prog.info? 34).map (fun i => (i.zero, i.size, i.bytes)) = some (some (.agg #[(.int .i64 0), (.int .i64 0)]), 2, 16) := by kernel_rfl
theorem info76 : (Tryz.prog.info? 76).map (fun i => (i.zero, i.size, i.bytes)) = some (some (.agg #[(.int .i64 0), (.int .i64 0), (.int .i64 0)]), 3, 24) := by kernel_rfl
structure S76 where
 f0 : Int
 f1 : Int
 f2 : Int
def z76 : S76 := ⟨(0 : Int), (0 : Int), (0 : Int)⟩
def k76 : Kd S76 := Kd.iso (Kd.pair (Kd.int .i64) (Kd.pair (Kd.int .i64) (Kd.int .i64))) (fun x : S76 => (x.f0, x.f1, x.f2))
theorem k76_open {w : World} {x : S76} {cs : List Value} (h : k76.K w x cs) : cs = [.int .i64 x.f0, .int .i64 x.f1, .int .i64 x.f2] := by
 obtain ⟨_, _, rfl, rfl, ⟨_, _, rfl, rfl, rfl⟩⟩ := h
 exact rfl
theorem k76_mk (w : World) (x : S76)  : k76.K w x [.int .i64 x.f0, .int .i64 x.f1, .int .i64 x.f2] := ⟨[.int .i64 x.f0], [.int .i64 x.f1, .int .i64 x.f2], rfl, rfl, ⟨[.int .i64 x.f1], [.int .i64 x.f2], rfl, rfl, rfl⟩⟩
theorem k76_mkM (w : World) (base : Nat) (ok : Nat → Prop) (x : S76)  : k76.M w base ok x [.int .i64 x.f0, .int .i64 x.f1, .int .i64 x.f2] := ⟨[.int .i64 x.f0], [.int .i64 x.f1, .int .i64 x.f2], rfl, rfl, ⟨[.int .i64 x.f1], [.int .i64 x.f2], rfl, rfl, rfl⟩⟩
def rd_T76 (xs : List S76) (i : Int) : S76 := xs.getD i.toNat z76
theorem at_T76 {w : World} {A : Option Addr} {n : Nat} {xs : List S76} (h : Kd.C k76 w A n xs) (i : Int) (h0 : 0 ≤ i) (h1 : i < n) : ∃ ad , A = some ad ∧ w.cell? (ad.add (i.toNat * 3)) = some (.int .i64 (rd_T76 xs i).f0) ∧ w.cell? ⟨(ad.add (i.toNat * 3)).block, (ad.add (i.toNat * 3)).off + 1, none⟩ = some (.int .i64 (rd_T76 xs i).f1) ∧ w.cell? ⟨(ad.add (i.toNat * 3)).block, (ad.add (i.toNat * 3)).off + 2, none⟩ = some (.int .i64 (rd_T76 xs i).f2) := by
 obtain ⟨ad, c, e, _, hK, hc0⟩ := Kd.C_get h z76 i h0 h1
 have hc : ∀ j u, c[j]? = some u → w.cell? (ad.add (i.toNat * 3 + j)) = some u := hc0
 obtain rfl := k76_open hK
 exact ⟨ad, e, hc 0 _ rfl, by rw [← add_field _ _ 1 (by omega)]; exact hc 1 _ rfl, by rw [← add_field _ _ 2 (by omega)]; exact hc 2 _ rfl⟩
structure S34 where
 f0 : Int
 f1 : Int
def z34 : S34 := ⟨(0 : Int), (0 : Int)⟩
def k34 : Kd S34 := Kd.iso (Kd.pair (Kd.int .i64) (Kd.int .i64)) (fun x : S34 => (x.f0, x.f1))
theorem k34_open {w : World} {x : S34} {cs : List Value} (h : k34.K w x cs) : cs = [.int .i64 x.f0, .int .i64 x.f1] := by
 obtain ⟨_, _, rfl, rfl, rfl⟩ := h
 exact rfl
theorem k34_mkM (w : World) (base : Nat) (ok : Nat → Prop) (x : S34)  : k34.M w base ok x [.int .i64 x.f0, .int .i64 x.f1] := ⟨[.int .i64 x.f0], [.int .i64 x.f1], rfl, rfl, rfl⟩
def rd_T34 (xs : List S34) (i : Int) : S34 := xs.getD i.toNat z34
theorem at_T34 {w : World} {A : Option Addr} {n : Nat} {xs : List S34} (h : Kd.C k34 w A n xs) (i : Int) (h0 : 0 ≤ i) (h1 : i < n) : ∃ ad , A = some ad ∧ w.cell? (ad.add (i.toNat * 2)) = some (.int .i64 (rd_T34 xs i).f0) ∧ w.cell? ⟨(ad.add (i.toNat * 2)).block, (ad.add (i.toNat * 2)).off + 1, none⟩ = some (.int .i64 (rd_T34 xs i).f1) := by
 obtain ⟨ad, c, e, _, hK, hc0⟩ := Kd.C_get h z34 i h0 h1
 have hc : ∀ j u, c[j]? = some u → w.cell? (ad.add (i.toNat * 2 + j)) = some u := hc0
 obtain rfl := k34_open hK
 exact ⟨ad, e, hc 0 _ rfl, by rw [← add_field _ _ 1 (by omega)]; exact hc 1 _ rfl⟩
def rd_L3 (xs : List (List S34)) (i : Int) : (List S34) := xs.getD i.toNat ([] : List S34)
theorem at_L3 {w : World} {A : Option Addr} {n : Nat} {xs : List (List S34)} (h : Kd.C (Kd.slice 34 k34) w A n xs) (i : Int) (h0 : 0 ≤ i) (h1 : i < n) : ∃ ad A0 c0, A = some ad ∧ w.cell? (ad.add i.toNat) = some (.slice A0 (rd_L3 xs i).length c0) ∧ (rd_L3 xs i).length ≤ c0 ∧ k34.C w A0 (rd_L3 xs i).length (rd_L3 xs i) := by
 obtain ⟨ad, c, e, _, hK, hc0⟩ := Kd.C_get h ([] : List S34) i h0 h1
 have hc : ∀ j u, c[j]? = some u → w.cell? (ad.add (i.toNat * 1 + j)) = some u := hc0
 obtain ⟨A0, c0, rfl, l0, g0⟩ := hK
 exact ⟨ad, A0, c0, e, by have hq := hc 0 _ rfl; rwa [Nat.mul_one, Nat.add_zero] at hq, l0, g0⟩
structure S46 where
 f0 : Int
 f1 : Int
 f2 : Int
def z46 : S46 := ⟨(0 : Int), (0 : Int), (0 : Int)⟩
structure S159 where
 f0 : Int
 f1 : Int
def z159 : S159 := ⟨(0 : Int), (0 : Int)⟩
def k159 : Kd S159 := Kd.iso (Kd.pair (Kd.int .i64) (Kd.int .i64)) (fun x : S159 => (x.f0, x.f1))
theorem k159_open {w : World} {x : S159} {cs : List Value} (h : k159.K w x cs) : cs = [.int .i64 x.f0, .int .i64 x.f1] := by
 obtain ⟨_, _, rfl, rfl, rfl⟩ := h
 exact rfl
theorem k159_mkM (w : World) (base : Nat) (ok : Nat → Prop) (x : S159)  : k159.M w base ok x [.int .i64 x.f0, .int .i64 x.f1] := ⟨[.int .i64 x.f0], [.int .i64 x.f1], rfl, rfl, rfl⟩
def rd_T159 (xs : List S159) (i : Int) : S159 := xs.getD i.toNat z159
theorem at_T159 {w : World} {A : Option Addr} {n : Nat} {xs : List S159} (h : Kd.C k159 w A n xs) (i : Int) (h0 : 0 ≤ i) (h1 : i < n) : ∃ ad , A = some ad ∧ w.cell? (ad.add (i.toNat * 2)) = some (.int .i64 (rd_T159 xs i).f0) ∧ w.cell? ⟨(ad.add (i.toNat * 2)).block, (ad.add (i.toNat * 2)).off + 1, none⟩ = some (.int .i64 (rd_T159 xs i).f1) := by
 obtain ⟨ad, c, e, _, hK, hc0⟩ := Kd.C_get h z159 i h0 h1
 have hc : ∀ j u, c[j]? = some u → w.cell? (ad.add (i.toNat * 2 + j)) = some u := hc0
 obtain rfl := k159_open hK
 exact ⟨ad, e, hc 0 _ rfl, by rw [← add_field _ _ 1 (by omega)]; exact hc 1 _ rfl⟩
end Go.Proofs.YtiioklboaookiaaGreatDoor.Q
namespace Go.Proofs.YtiioklboaookiaaGreatDoor.Q
open Go.RowKit Go.Proofs.YtiioklboaookiaaGreatDoorW.PrintWords Go.Proofs.YtiioklboaookiaaGreatDoorW.PrintLast Go.Proofs.YtiioklboaookiaaGreatDoor.Hand Go.Proofs.YtiioklboaookiaaGreatDoorW.PrintMore
attribute [local go_sem] max2_int min2_int max_two min_two max_three min_three max_four min_four
set_option linter.unusedVariables false
set_option linter.unusedSimpArgs false
def silversidetop_mod.f (a0 : Int) (a1 : Int) : Option (Int) := if (IntKind.u64.wrap (a1)) = 0 then (none) else (some (wrap64 (Int.tmod (IntKind.u64.wrap (a0)) (IntKind.u64.wrap (a1)))))
set_option maxHeartbeats 8000000 in
set_option maxRecDepth 100000 in
theorem silversidetop_mod.calls (a0 : Int) (a1 : Int) (r : Int) (w : World) (h : silversidetop_mod.f a0 a1 = some r) :
  Calls Tryz.prog 10 #[.int .i64 a0, .int .i64 a1] w fun e w' => e = .returned (.int .i64 r) ∧ Drawn0 w w' := by
 have H : (if (IntKind.u64.wrap (a1)) = 0 then (none) else (some (wrap64 (Int.tmod (IntKind.u64.wrap (a0)) (IntKind.u64.wrap (a1)))))) = some r := h
 clear h
 by_cases c3 : (IntKind.u64.wrap (a1)) = 0
 ·rw [if_pos c3] at H
  exact absurd H (by simp)
 ·rw [if_neg c3] at H
  have c3b0 : ((IntKind.u64.wrap (a1)) == 0) = false := beq_eq_false_iff_ne.mpr c3
  have c3b1 : ((IntKind.u64.wrap (a1)) != 0) = true := bne_iff_ne.mpr c3
  obtain rfl := Option.some.inj H
  go_enter Tryz.func10, Tryz.ntmps10
  go_wp2
  go_ret
  exact ⟨by first | rfl | (simp; done) | (simp [*]; done), by repeat (first | exact Drawn0.refl _ | apply Drawn0.step)⟩
end Go.Proofs.YtiioklboaookiaaGreatDoor.Q
