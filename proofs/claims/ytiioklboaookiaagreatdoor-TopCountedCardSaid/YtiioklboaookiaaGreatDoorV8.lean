/- A part of the proof: what the law's row needs. -/
import Derived.Test.YtiioklboaookiaaGreatDoorProg
import Derived.Below
import Derived.Deep.Draws
import Derived.Deep.AppendLies
import Derived.Maps.AppendAt
import Derived.OwnWalk
import Derived.Laws.BytesArg
import Derived.Laws.MakeOwn
import Derived.Laws.OwnMore
import Derived.Deep.OwnRows
import Derived.Tactics
import Derived.Lib.ConvBytes
import Derived.Laws.Slices
import Derived.WalkKit
import Derived.KernelRfl
import Derived.RowKit3
import Derived.Deep.LoopGhost
import Derived.Deep.QuietTactic
import Derived.BigQuiet
import Derived.WideLaws
import Derived.Deep.DeepCutAuto
import Derived.Deep.CutBlock
import Derived.Deep.RegionHeld3
import Derived.Laws.Rows
import Derived.Lib.AppendStr
import Derived.ArgAppend
import Derived.Laws.IdiomCopy
import Derived.OrdersHeld
import Derived.Laws.BitsLemmas
import Derived.RowKit
import Derived.RegionTactic
import Derived.ChangeAlike
import Derived.Deep.RegionWith
import Derived.IntWalk
import Derived.Laws.EntriesVeiled
import Derived.WideKeyEntry
import Derived.DeepKeys4
import Derived.Maps.Own
import Derived.Maps.OwnOps
import Derived.Maps.OwnSet
import Derived.Maps.Views
import Derived.Test.YtiioklboaookiaaGreatDoorV7
namespace Go.Proofs.YtiioklboaookiaaGreatDoor.Hand
open Go.RowKit Go.Proofs.YtiioklboaookiaaGreatDoorW.PrintWords Go.Proofs.YtiioklboaookiaaGreatDoorW.PrintLast Go.Proofs.YtiioklboaookiaaGreatDoorW.PrintMore
open Rs (xt pw_bd lg_pw pw_lg pw_mod)
attribute [local go_sem] max2_int min2_int max_two min_two max_three min_three max_four min_four
set_option linter.unusedVariables false
set_option linter.unusedSimpArgs false
structure Tab where
 T : Nat → Nat → Int
 S : Nat → Nat → Int × Int
def Tab.put (t : Tab) (x y : Nat) (v : Int) (s : Int × Int) : Tab := ⟨fun i j => if i = x ∧ j = y then v else t.T i j, fun i j => if i = x ∧ j = y then s else t.S i j⟩
def Tab.imp (t : Tab) (x y : Nat) (v : Int) (s : Int × Int) : Tab := if t.T x y < v then t.put x y v s else t
def TabAt (b : Nat) (t : Tab) (w : World) : Prop :=
 (∀ x y, x < 49 → y < 49 → w.cell? ⟨b, x * 49 + y, none⟩ = some (.int .i64 (t.T x y)) ∧ w.cell? ⟨b, 2401 + x * 98 + y * 2, none⟩ = some (.int .i64 (t.S x y).1) ∧ w.cell? ⟨b, 2401 + x * 98 + y * 2 + 1, none⟩ = some (.int .i64 (t.S x y).2)) ∧
 (∀ j, w.frozen? ⟨b, j, none⟩ = false) ∧ b < w.heap.size
theorem TabAt.heap {b : Nat} {t : Tab} {w w1 : World} (h : TabAt b t w) (he : w1.heap[b]? = w.heap[b]?) (hs : b < w1.heap.size) : TabAt b t w1 := by
 obtain ⟨h1, h2, h3⟩ := h
 have hc : ∀ j, w1.cell? ⟨b, j, none⟩ = w.cell? ⟨b, j, none⟩ := fun j => by unfold World.cell?; rw [he]
 have hf : ∀ j, w1.frozen? ⟨b, j, none⟩ = w.frozen? ⟨b, j, none⟩ := fun j => by unfold World.frozen?; rw [he]
 exact ⟨fun x y hx hy => by rw [hc, hc, hc]; exact h1 x y hx hy, fun j => by rw [hf]; exact h2 j, hs⟩
theorem TabAt.below {b : Nat} {t : Tab} {w w1 : World} (h : TabAt b t w) (hb : Below w.heap.size w w1) : TabAt b t w1 := h.heap (hb.block b h.2.2) (Nat.lt_of_lt_of_le h.2.2 hb.size)
theorem TabAt.alloc {b : Nat} {t : Tab} {w : World} (h : TabAt b t w) (o : Obj) : TabAt b t (w.alloc o) := h.below (below_alloc (Below.refl _ _) o)
theorem TabAt.drewN {b : Nat} {t : Tab} {w : World} (h : TabAt b t w) (m : Nat) : TabAt b t (w.drewN m) := h
theorem TabAt.drew {b : Nat} {t : Tab} {w : World} (h : TabAt b t w) : TabAt b t w.drew := h
theorem TabAt.put {b : Nat} {t : Tab} {w : World} (h : TabAt b t w) (x y : Nat) (hx : x < 49) (hy : y < 49) (v : Int) (s : Int × Int) :
  TabAt b (t.put x y v s) (((w.setCell ⟨b, x * 49 + y, none⟩ (.int .i64 v)).setCell ⟨b, 2401 + x * 98 + y * 2, none⟩ (.int .i64 s.1)).setCell ⟨b, 2401 + x * 98 + y * 2 + 1, none⟩ (.int .i64 s.2)) := by
 have ne : ∀ {i j : Nat}, i ≠ j → (⟨b, i, none⟩ : Addr) ≠ ⟨b, j, none⟩ := fun h e => h (by injection e)
 obtain ⟨h1, h2, h3⟩ := h
 obtain ⟨g1, g2, g3⟩ := h1 x y hx hy
 refine ⟨fun i j hi hj => ?_, fun j => by simp [h2], by simpa using h3⟩
 obtain ⟨k1, k2, k3⟩ := h1 i j hi hj
 by_cases e : i = x ∧ j = y
 ·obtain ⟨rfl, rfl⟩ := e
  refine ⟨?_, ?_, ?_⟩
  ·rw [World.cell?_setCell_other _ _ _ _ (ne (by omega)), World.cell?_setCell_other _ _ _ _ (ne (by omega)), World.cell?_setCell_same _ _ _ g1]
   simp [Tab.put]
  ·rw [World.cell?_setCell_other _ _ _ _ (ne (by omega)), World.cell?_setCell_same _ _ _ (u := .int .i64 (t.S i j).1) (by rw [World.cell?_setCell_other _ _ _ _ (ne (by omega))]; exact g2)]
   simp [Tab.put]
  ·rw [World.cell?_setCell_same _ _ _ (u := .int .i64 (t.S i j).2) (by rw [World.cell?_setCell_other _ _ _ _ (ne (by omega)), World.cell?_setCell_other _ _ _ _ (ne (by omega))]; exact g3)]
   simp [Tab.put]
 ·refine ⟨?_, ?_, ?_⟩
  ·rw [World.cell?_setCell_other _ _ _ _ (ne (by omega)), World.cell?_setCell_other _ _ _ _ (ne (by omega)), World.cell?_setCell_other _ _ _ _ (ne (by omega)), k1]
   simp [Tab.put, e]
  ·rw [World.cell?_setCell_other _ _ _ _ (ne (by omega)), World.cell?_setCell_other _ _ _ _ (ne (by omega)), World.cell?_setCell_other _ _ _ _ (ne (by omega)), k2]
   simp [Tab.put, e]
  ·rw [World.cell?_setCell_other _ _ _ _ (ne (by omega)), World.cell?_setCell_other _ _ _ _ (ne (by omega)), World.cell?_setCell_other _ _ _ _ (ne (by omega)), k3]
   simp [Tab.put, e]
set_option maxHeartbeats 4000000 in
set_option maxRecDepth 100000 in
theorem improve_no (b : Nat) (t : Tab) (x y : Nat) (v : Int) (s : Int × Int) (w : World) (hx : x < 49) (hy : y < 49) (h : TabAt b t w) (hv : ¬ t.T x y < v) :
  Calls Tryz.prog 50 #[.pointer (some ⟨b, 0, none⟩), .int .i64 x, .int .i64 y, .int .i64 v, .agg #[.int .i64 s.1, .int .i64 s.2]] w fun e w' => e = .returned (.tuple #[]) ∧ TabAt b (t.imp x y v s) w' ∧ Below b w w' := by
 have HT := hid h
 have c1 := (h.1 x y hx hy).1
 have hb := h.2.2
 have d1 : decide (t.T x y < v) = false := decide_eq_false hv
 have x0 : (0 : Int) ≤ (x : Int) := by omega
 have x1 : (x : Int) < 49 := by omega
 have y0 : (0 : Int) ≤ (y : Int) := by omega
 have y1 : (y : Int) < 49 := by omega
 have HI := hid (show t.imp x y v s = t by unfold Tab.imp; rw [if_neg hv])
 clear h hv
 go_enter Tryz.func50, Tryz.ntmps50
 go_wp2
 go_end0
 refine ⟨rfl, ?_, (Below.refl _ _).alloc (Nat.le_of_lt hb) _⟩
 rw [HI.out]
 exact HT.out.alloc _
set_option maxHeartbeats 4000000 in
set_option maxRecDepth 100000 in
theorem improve_yes (b : Nat) (t : Tab) (x y : Nat) (v : Int) (s : Int × Int) (w : World) (hx : x < 49) (hy : y < 49) (h : TabAt b t w) (hv : t.T x y < v) :
  Calls Tryz.prog 50 #[.pointer (some ⟨b, 0, none⟩), .int .i64 x, .int .i64 y, .int .i64 v, .agg #[.int .i64 s.1, .int .i64 s.2]] w fun e w' => e = .returned (.tuple #[]) ∧ TabAt b (t.imp x y v s) w' ∧ Below b w w' := by
 have HT := hid h
 obtain ⟨c1, c2, c3⟩ := h.1 x y hx hy
 have f1 := h.2.1 (x * 49 + y)
 have f2 := h.2.1 (2401 + x * 98 + y * 2)
 have f3 := h.2.1 (2401 + x * 98 + y * 2 + 1)
 have hb := h.2.2
 have d1 : decide (t.T x y < v) = true := decide_eq_true hv
 have x0 : (0 : Int) ≤ (x : Int) := by omega
 have x1 : (x : Int) < 49 := by omega
 have y0 : (0 : Int) ≤ (y : Int) := by omega
 have y1 : (y : Int) < 49 := by omega
 have HI := hid (show t.imp x y v s = t.put x y v s by unfold Tab.imp; rw [if_pos hv])
 clear h hv
 go_enter Tryz.func50, Tryz.ntmps50
 go_wp2
 go_region
 go_end0
 exact ⟨rfl, by rw [HI.out]; exact ((HT.out.put x y hx hy v s).alloc _).drew, by refine Below.drew (Below.alloc ?_ (by simp; omega) _); exact Below.setCell (p := ⟨b, 2401 + x * 98 + y * 2 + 1, none⟩) (Below.setCell (p := ⟨b, 2401 + x * 98 + y * 2, none⟩) (Below.setCell (p := ⟨b, x * 49 + y, none⟩) (Below.refl _ _) (Nat.le_refl _) _) (Nat.le_refl _) _) (Nat.le_refl _) _⟩
theorem improve_calls (b : Nat) (t : Tab) (x y : Nat) (v : Int) (s : Int × Int) (w : World) (hx : x < 49) (hy : y < 49) (h : TabAt b t w) :
  Calls Tryz.prog 50 #[.pointer (some ⟨b, 0, none⟩), .int .i64 x, .int .i64 y, .int .i64 v, .agg #[.int .i64 s.1, .int .i64 s.2]] w fun e w' => e = .returned (.tuple #[]) ∧ TabAt b (t.imp x y v s) w' ∧ Below b w w' := by
 by_cases hv : t.T x y < v
 ·exact improve_yes b t x y v s w hx hy h hv
 ·exact improve_no b t x y v s w hx hy h hv
end Go.Proofs.YtiioklboaookiaaGreatDoor.Hand
namespace Go.Proofs.YtiioklboaookiaaGreatDoor.Q
open Go.RowKit Go.Proofs.YtiioklboaookiaaGreatDoorW.PrintWords Go.Proofs.YtiioklboaookiaaGreatDoorW.PrintLast Go.Proofs.YtiioklboaookiaaGreatDoor.Hand Go.Proofs.YtiioklboaookiaaGreatDoorW.PrintMore
attribute [local go_sem] max2_int min2_int max_two min_two max_three min_three max_four min_four
set_option linter.unusedVariables false
set_option linter.unusedSimpArgs false
def fillB (x y : Nat) : List S76 → Nat → Tab → Tab
 | [], _, t => t
 | b :: l, k, t => fillB x y l (k + 1) (if b.f0 ≤ (x : Int) ∧ b.f1 ≤ (y : Int) then t.imp x y b.f2 (1, (k : Int)) else t)
def fillA (x y : Nat) : Nat → Nat → Tab → Tab
 | 0, _, t => t
 | m + 1, i, t => fillA x y m (i + 1) (t.imp x y (IntKind.i64.wrap (t.T i y + t.T (x - i) y)) (2, (i : Int)))
def fillL (x y : Nat) : Nat → Nat → Tab → Tab
 | 0, _, t => t
 | m + 1, i, t => fillL x y m (i + 1) (t.imp x y (IntKind.i64.wrap (t.T x i + t.T x (y - i))) (3, (i : Int)))
def fillH (l : List S76) (x : Nat) : Nat → Nat → Tab → Tab
 | 0, _, t => t
 | m + 1, y, t => fillH l x m (y + 1) (fillL x y (y - 1) 1 (fillA x y (x - 1) 1 (fillB x y l 0 t)))
def fillW (l : List S76) (H : Nat) : Nat → Nat → Tab → Tab
 | 0, _, t => t
 | m + 1, x, t => fillW l H m (x + 1) (fillH l x H 1 t)
def Tab.zero : Tab := ⟨fun _ _ => 0, fun _ _ => (0, 0)⟩
def fillT (l : List S76) (W H : Nat) : Tab := fillW l H W 1 Tab.zero
def tcells : Array Value := (List.replicate 7203 (Value.int .i64 0)).toArray
set_option maxRecDepth 100000 in
theorem zeroTab (w : World) : Sem.run Tryz.prog (zeroValue 88) w = .ok (.agg tcells) w := by kernel_rfl
theorem tcells_get (j : Nat) (h : j < 7203) : tcells[j]? = some (.int .i64 0) := by
 unfold tcells; rw [List.getElem?_toArray, List.getElem?_replicate, if_pos h]
theorem TabAt.start (w : World) : TabAt w.heap.size Tab.zero (w.alloc (.cells tcells 88)) := by
 refine ⟨fun x y hx hy => ?_, fun j => by simp, by simp⟩
 rw [World.cell?_alloc_new, World.cell?_alloc_new, World.cell?_alloc_new, tcells_get _ (by omega), tcells_get _ (by omega), tcells_get _ (by omega)]
 exact ⟨rfl, rfl, rfl⟩
theorem drop_B {l : List S76} (i : Nat) (hi : i < l.length) : l.drop i = rd_T76 l (i : Int) :: l.drop (i + 1) := by
 unfold rd_T76; rw [Int.toNat_natCast, List.getD_eq_getElem?_getD, List.getElem?_eq_getElem hi, List.drop_eq_getElem_cons hi]; rfl
def BoxT (b : Nat) (W H : Nat) (v : Value) (w : World) : Prop := w.heap[b]? = some (.cells #[.int .i64 W, .int .i64 H, v] 78 (0, 0))
theorem BoxT.below {b W H : Nat} {v : Value} {w w1 : World} (h : BoxT b W H v w) (hb : Below (b + 1) w w1) : BoxT b W H v w1 := (hb.block b (by omega)).trans h
theorem BoxT.cells {b W H : Nat} {v : Value} {w : World} (h : BoxT b W H v w) : w.cell? ⟨b, 0, none⟩ = some (.int .i64 W) ∧ w.cell? ⟨b, 1, none⟩ = some (.int .i64 H) ∧ w.cell? ⟨b, 2, none⟩ = some v := by
 unfold BoxT at h; simp [World.cell?, h]
structure FillAt (b : Nat) (W H : Nat) (v : Value) (t : Tab) (w0 w : World) : Prop where
 box : BoxT b W H v w
 tab : TabAt (b + 1) t w
 bel : Below b w0 w
 lt : b + 1 < w.heap.size
theorem FillAt.step {b W H : Nat} {v : Value} {t t' : Tab} {w0 w w1 : World} (h : FillAt b W H v t w0 w) (ht : TabAt (b + 1) t' w1) (hb : Below (b + 1) w w1) : FillAt b W H v t' w0 w1 :=
 ⟨h.box.below hb, ht, h.bel.trans (hb.mono (Nat.le_succ b)), ht.2.2⟩
theorem FillAt.more {b W H : Nat} {v : Value} {t : Tab} {w0 w w1 : World} (h : FillAt b W H v t w0 w) (hb : Below w.heap.size w w1) : FillAt b W H v t w0 w1 :=
 h.step (h.tab.below hb) (hb.mono (Nat.le_of_lt h.lt))
theorem FillAt.drewN {b W H : Nat} {v : Value} {t : Tab} {w0 w : World} (h : FillAt b W H v t w0 w) (m : Nat) : FillAt b W H v t w0 (w.drewN m) := h.more (pw_below_drewN (Below.refl _ _) m)
set_option maxHeartbeats 16000000 in
set_option maxRecDepth 100000 in
theorem fill_walk (W H : Nat) (A0 : Option Addr) (c0 : Nat) (l : List S76) (w : World) (hW : W < 49) (hH : H < 49) (hl : l.length ≤ 16) (hr : Kd.C k76 w A0 l.length l) :
  Calls Tryz.prog 25 #[.agg #[.int .i64 W, .int .i64 H, .slice A0 l.length c0]] w fun e w' => ∃ b, e = .returned (.pointer (some ⟨b, 0, none⟩)) ∧ w.heap.size ≤ b ∧ TabAt b (fillT l W H) w' ∧ Below w.heap.size w w' := by
 have HR := Aside0.mk hr
 clear hr
 have hz := zeroTab
 go_enter Tryz.func25, Tryz.ntmps25
 go_wp2
 clear hz
 obtain ⟨B, hB⟩ : ∃ B, B = w.heap.size := ⟨_, rfl⟩
 have HF0 : Aside0 (FillAt B W H (.slice A0 l.length c0) Tab.zero w ((w.alloc (.cells #[.int .i64 W, .int .i64 H, .slice A0 l.length c0] 78)).alloc (.cells tcells 88))) := by
  rw [hB]
  exact ⟨⟨blk_alloc (blk_new _ _) _, by rw [show w.heap.size + 1 = (w.alloc (.cells #[.int .i64 W, .int .i64 H, .slice A0 l.length c0] 78)).heap.size from by simp]; exact TabAt.start _, ((Below.refl _ _).alloc (Nat.le_refl _) _).alloc (by simp) _, by simp⟩⟩
 have HBW := hid hB
 rw [← hB]
 clear hB
 go_loopg [4] W (fun kq v4 w' => ∃ (x : Nat) (t : Tab), v4 = .int .i64 x ∧ x + kq = W + 1 ∧ 1 ≤ x ∧ Aside0 (fillW l H kq x t = fillT l W H) ∧ Aside0 (FillAt B W H (.slice A0 l.length c0) t w w'))
 case atStart => exact ⟨1, Tab.zero, rfl, by omega, by omega, ⟨rfl⟩, HF0⟩
 case round =>
  clear HF0
  obtain ⟨x, t, rfl, hx, hx1, HX, HF⟩ := hrel
  obtain ⟨c0_, c1_, c2_⟩ := HF.out.box.cells
  by_cases hlt : x ≤ W
  ·have d1 : decide ((x : Int) ≤ (W : Int)) = true := decide_eq_true (by omega)
   obtain ⟨gx, rfl⟩ : ∃ gx, gk = gx + 1 := ⟨gk - 1, by omega⟩
   go_wp2
   clear c0_ c1_ c2_
   go_loopg [5] H (fun kq v5 w' => ∃ (y : Nat) (t1 : Tab), v5 = .int .i64 y ∧ y + kq = H + 1 ∧ 1 ≤ y ∧ Aside0 (fillH l x kq y t1 = fillH l x H 1 t) ∧ Aside0 (FillAt B W H (.slice A0 l.length c0) t1 w w'))
   case atStart => exact ⟨1, t, rfl, by omega, by omega, ⟨rfl⟩, HF⟩
   case round =>
    clear HF
    obtain ⟨y, t1, rfl, hy, hy1, HY, HF⟩ := hrel
    obtain ⟨c0_, c1_, c2_⟩ := HF.out.box.cells
    by_cases hlty : y ≤ H
    ·have d2 : decide ((y : Int) ≤ (H : Int)) = true := decide_eq_true (by omega)
     obtain ⟨gy, rfl⟩ : ∃ gy, gk = gy + 1 := ⟨gk - 1, by omega⟩
     go_wp2
     clear c0_ c1_ c2_
     go_loopg [27] l.length (fun kq v27 w' => ∃ (k : Nat) (t2 : Tab), v27 = .int .i64 k ∧ k + kq = l.length ∧ Aside0 (fillB x y (l.drop k) k t2 = fillB x y l 0 t1) ∧ Aside0 (FillAt B W H (.slice A0 l.length c0) t2 w w'))
     case atStart => exact ⟨0, t1, rfl, by omega, ⟨rfl⟩, HF⟩
     case round =>
      clear HF
      obtain ⟨k, t2, rfl, hk, HK, HF⟩ := hrel
      by_cases hltk : k < l.length
      ·have d3 : decide ((k : Int) < (l.length : Int)) = true := decide_eq_true (by omega)
       obtain ⟨ad, e0, hx0, hx1, hx2⟩ := at_T76 HR.out (k : Int) (by omega) (by omega)
       rw [Int.toNat_natCast] at hx0 hx1 hx2
       replace hx0 := (HF.out.bel.cell (by rw [HBW.out]; exact World.block_lt_of_cell? w _ hx0)).trans hx0
       replace hx1 := (HF.out.bel.cell (by rw [HBW.out]; exact World.block_lt_of_cell? w _ hx1)).trans hx1
       replace hx2 := (HF.out.bel.cell (by rw [HBW.out]; exact World.block_lt_of_cell? w _ hx2)).trans hx2
       cases e0
       have hlt' : (k : Int) < (l.length : Int) := by omega
       have k0 : (0 : Int) ≤ (k : Int) := by omega
       have HDR := hid (drop_B k hltk)
       obtain ⟨bl, hbl⟩ : ∃ bl, bl = rd_T76 l (k : Int) := ⟨_, rfl⟩
       rw [← hbl] at hx0 hx1 hx2 HDR
       clear hbl
       have HK1 : Hid (fillB x y (l.drop (k + 1)) (k + 1) (if bl.f0 ≤ (x : Int) ∧ bl.f1 ≤ (y : Int) then t2.imp x y bl.f2 (1, (k : Int)) else t2) = fillB x y l 0 t1) := by
        show _ = _
        rw [← HK.out, HDR.out]; rfl
       by_cases b0 : bl.f0 ≤ (x : Int)
       ·have d4 : decide (bl.f0 ≤ (x : Int)) = true := decide_eq_true b0
        by_cases b1 : bl.f1 ≤ (y : Int)
        ·have d5 : decide (bl.f1 ≤ (y : Int)) = true := decide_eq_true b1
         have HK2 : Hid (fillB x y (l.drop (k + 1)) (k + 1) (t2.imp x y bl.f2 (1, (k : Int))) = fillB x y l 0 t1) := by
          have h := HK1.out
          rw [if_pos ⟨b0, b1⟩] at h
          exact h
         clear b0 b1 HK1
         go_wp2_with (fail)
         refine (improve_calls (B + 1) t2 x y bl.f2 (1, (k : Int)) _ (by omega) (by omega) (HF.out.tab.alloc _)).mono ?_
         rintro e w1 ⟨rfl, hT, hB⟩
         have HF1 : Aside0 (FillAt B W H (.slice (some ad) l.length c0) (t2.imp x y bl.f2 (1, (k : Int))) w w1) := ⟨(HF.out.more (below_alloc (Below.refl _ _) _)).step hT hB⟩
         clear hT hB
         try go_wp2
         go_roundg (l.length - (k + 1))
         case rel => exact ⟨k + 1, _, by go_num, by omega, ⟨HK2.out⟩, HF1⟩
         case measure => omega
        ·have d5 : decide (bl.f1 ≤ (y : Int)) = false := decide_eq_false b1
         have HK2 : Hid (fillB x y (l.drop (k + 1)) (k + 1) t2 = fillB x y l 0 t1) := by
          have h := HK1.out
          rw [if_neg (fun h => b1 h.2)] at h
          exact h
         clear b0 b1 HK1
         go_wp2
         go_roundg (l.length - (k + 1))
         case rel => exact ⟨k + 1, _, by go_num, by omega, ⟨HK2.out⟩, ⟨HF.out.more (by repeat (first | exact Below.refl _ _ | refine below_alloc ?_ _ | refine pw_below_drewN ?_ _ | refine below_drew1 ?_))⟩⟩
         case measure => omega
       ·have d4 : decide (bl.f0 ≤ (x : Int)) = false := decide_eq_false b0
        have HK2 : Hid (fillB x y (l.drop (k + 1)) (k + 1) t2 = fillB x y l 0 t1) := by
         have h := HK1.out
         rw [if_neg (fun h => b0 h.1)] at h
         exact h
        clear b0 HK1
        go_wp2
        go_roundg (l.length - (k + 1))
        case rel => exact ⟨k + 1, _, by go_num, by omega, ⟨HK2.out⟩, ⟨HF.out.more (by repeat (first | exact Below.refl _ _ | refine below_alloc ?_ _ | refine pw_below_drewN ?_ _ | refine below_drew1 ?_))⟩⟩
        case measure => omega
      ·have d3 : decide ((k : Int) < (l.length : Int)) = false := decide_eq_false (by omega)
       have HK2 : Hid (t2 = fillB x y l 0 t1) := by
        have h := HK.out
        rw [List.drop_eq_nil_of_le (by omega)] at h
        exact h
       clear HK
       go_wp2
       go_loopg [8] (x - 1) (fun kq v8 w' => ∃ (i : Nat) (t3 : Tab), v8 = .int .i64 i ∧ i + kq = x ∧ 1 ≤ i ∧ Aside0 (fillA x y kq i t3 = fillA x y (x - 1) 1 t2) ∧ Aside0 (FillAt B W H (.slice A0 l.length c0) t3 w w'))
       case atStart => exact ⟨1, t2, rfl, by omega, by omega, ⟨rfl⟩, HF⟩
       case round =>
        clear HF
        obtain ⟨i, t3, rfl, hi, hi1, HI, HF⟩ := hrel
        by_cases hlti : i < x
        ·have d4 : decide ((i : Int) < (x : Int)) = true := decide_eq_true (by omega)
         obtain ⟨gi, rfl⟩ : ∃ gi, gk = gi + 1 := ⟨gk - 1, by omega⟩
         have c1_ := (HF.out.tab.1 i y (by omega) (by omega)).1
         have c2_ := (HF.out.tab.1 (x - i) y (by omega) (by omega)).1
         have s0 : (0 : Int) ≤ (i : Int) := by omega
         have s1 : (i : Int) < 49 := by omega
         have s2 : (0 : Int) ≤ (y : Int) := by omega
         have s3 : (y : Int) < 49 := by omega
         have s4 : (0 : Int) ≤ (x : Int) - (i : Int) := by omega
         have s5 : (x : Int) - (i : Int) < 49 := by omega
         have s6 : ((x : Int) - (i : Int)).toNat = x - i := by omega
         have s7 : IntKind.i64.wrap ((x : Int) - (i : Int)) = (x : Int) - (i : Int) := IntWalk.i64_in _ (by omega)
         go_wp2
         go_region_with (go_at_call 50; refine (improve_calls (B + 1) t3 x y _ (2, (i : Int)) _ (by omega) (by omega) HF.out.tab.drew).mono ?_; rintro e w1 ⟨rfl, hT, hB⟩; have HF1 : Aside0 (FillAt B W H (.slice A0 l.length c0) (t3.imp x y (IntKind.i64.wrap (t3.T i y + t3.T (x - i) y)) (2, (i : Int))) w w1) := ⟨(HF.out.more (below_drew1 (Below.refl _ _))).step hT hB⟩; clear hT hB)
         all_goals
          clear c1_ c2_
          try go_wp2
          go_roundg gi
          case rel => exact ⟨i + 1, _, by go_num, by omega, by omega, HI, HF1⟩
          case measure => omega
        ·have d4 : decide ((i : Int) < (x : Int)) = false := decide_eq_false (by omega)
         obtain rfl : gk = 0 := by omega
         have HI2 : Hid (t3 = fillA x y (x - 1) 1 t2) := HI.out
         clear HI
         go_wp2
         go_loopg [9] (y - 1) (fun kq v9 w' => ∃ (i : Nat) (t4 : Tab), v9 = .int .i64 i ∧ i + kq = y ∧ 1 ≤ i ∧ Aside0 (fillL x y kq i t4 = fillL x y (y - 1) 1 t3) ∧ Aside0 (FillAt B W H (.slice A0 l.length c0) t4 w w'))
         case atStart => exact ⟨1, t3, rfl, by omega, by omega, ⟨rfl⟩, HF⟩
         case round =>
          clear HF
          obtain ⟨j, t4, rfl, hj, hj1, HJ, HF⟩ := hrel
          by_cases hltj : j < y
          ·have d5 : decide ((j : Int) < (y : Int)) = true := decide_eq_true (by omega)
           obtain ⟨gj, rfl⟩ : ∃ gj, gk = gj + 1 := ⟨gk - 1, by omega⟩
           have c1_ := (HF.out.tab.1 x j (by omega) (by omega)).1
           have c2_ := (HF.out.tab.1 x (y - j) (by omega) (by omega)).1
           have s0 : (0 : Int) ≤ (j : Int) := by omega
           have s1 : (j : Int) < 49 := by omega
           have s2 : (0 : Int) ≤ (x : Int) := by omega
           have s3 : (x : Int) < 49 := by omega
           have s4 : (0 : Int) ≤ (y : Int) - (j : Int) := by omega
           have s5 : (y : Int) - (j : Int) < 49 := by omega
           have s6 : ((y : Int) - (j : Int)).toNat = y - j := by omega
           have s7 : IntKind.i64.wrap ((y : Int) - (j : Int)) = (y : Int) - (j : Int) := IntWalk.i64_in _ (by omega)
           go_wp2
           go_region_with (go_at_call 50; refine (improve_calls (B + 1) t4 x y _ (3, (j : Int)) _ (by omega) (by omega) HF.out.tab.drew).mono ?_; rintro e w1 ⟨rfl, hT, hB⟩; have HF1 : Aside0 (FillAt B W H (.slice A0 l.length c0) (t4.imp x y (IntKind.i64.wrap (t4.T x j + t4.T x (y - j))) (3, (j : Int))) w w1) := ⟨(HF.out.more (below_drew1 (Below.refl _ _))).step hT hB⟩; clear hT hB)
           all_goals
            clear c1_ c2_
            try go_wp2
            go_roundg gj
            case rel => exact ⟨j + 1, _, by go_num, by omega, by omega, HJ, HF1⟩
            case measure => omega
          ·have d5 : decide ((j : Int) < (y : Int)) = false := decide_eq_false (by omega)
           obtain rfl : gk = 0 := by omega
           have HJ2 : Hid (t4 = fillL x y (y - 1) 1 t3) := HJ.out
           clear HJ
           go_wp2
           go_roundg gy
           case rel =>
            refine ⟨y + 1, t4, by go_num, by omega, by omega, ⟨?_⟩, HF⟩
            rw [HJ2.out, HI2.out, HK2.out]
            exact HY.out
           case measure => omega
    ·have d2 : decide ((y : Int) ≤ (H : Int)) = false := decide_eq_false (by omega)
     obtain rfl : gk = 0 := by omega
     have HY2 : Hid (t1 = fillH l x H 1 t) := HY.out
     clear HY
     go_wp2
     go_roundg gx
     case rel =>
      refine ⟨x + 1, t1, by go_num, by omega, by omega, ⟨?_⟩, HF⟩
      rw [HY2.out]
      exact HX.out
     case measure => omega
  ·have d1 : decide ((x : Int) ≤ (W : Int)) = false := decide_eq_false (by omega)
   obtain rfl : gk = 0 := by omega
   go_wp2
   go_ret
   exact ⟨_, rfl, by rw [← HBW.out]; omega, by rw [← HX.out]; exact HF.out.tab, by rw [← HBW.out]; exact HF.out.bel⟩
end Go.Proofs.YtiioklboaookiaaGreatDoor.Q
namespace Go.Proofs.YtiioklboaookiaaGreatDoor.Q
open Go.RowKit Go.Proofs.YtiioklboaookiaaGreatDoorW.PrintWords Go.Proofs.YtiioklboaookiaaGreatDoorW.PrintLast Go.Proofs.YtiioklboaookiaaGreatDoor.Hand Go.Proofs.YtiioklboaookiaaGreatDoorW.PrintMore
attribute [local go_sem] max2_int min2_int max_two min_two max_three min_three max_four min_four
set_option linter.unusedVariables false
set_option linter.unusedSimpArgs false
theorem within_yes {a lo hi : Int} (h1 : lo ≤ a) (h2 : a ≤ hi) (w : World) : Calls Tryz.prog 49 #[.int .i64 a, .int .i64 lo, .int .i64 hi] w fun e w' => e = .returned (.bool true) ∧ Drawn0 w w' :=
 carve_within.calls a lo hi true w (by unfold carve_within.f; rw [if_pos h1, decide_eq_true h2])
def blankOk (b : S76) : Bool := decide (1 ≤ b.f0 ∧ b.f0 ≤ 48 ∧ 1 ≤ b.f1 ∧ b.f1 ≤ 48 ∧ 0 ≤ b.f2 ∧ b.f2 ≤ 1048576)
theorem rd_mem {l : List S76} (i : Nat) (hi : i < l.length) : rd_T76 l (i : Int) ∈ l := by
 unfold rd_T76; rw [Int.toNat_natCast, List.getD_eq_getElem?_getD, List.getElem?_eq_getElem hi]; exact List.getElem_mem hi
set_option maxHeartbeats 8000000 in
set_option maxRecDepth 100000 in
theorem newTask_walk (W H : Nat) (A0 : Option Addr) (c0 : Nat) (l : List S76) (w : World) (hW0 : 1 ≤ W) (hW : W < 49) (hH0 : 1 ≤ H) (hH : H < 49) (hl : l.length ≤ 16) (hr : Kd.C k76 w A0 l.length l) (hv : ∀ x, x ∈ l → blankOk x = true) :
  Calls Tryz.prog 24 #[.int .i64 W, .int .i64 H, .slice A0 l.length c0] w fun e w' => e = .returned (.tuple #[.agg #[.int .i64 W, .int .i64 H, .slice A0 l.length c0], .int .i64 0]) ∧ Below w.heap.size w w' := by
 have HR := Aside0.mk hr
 have HV := hid hv
 clear hr hv
 have d1 : decide ((16 : Int) < (l.length : Int)) = false := decide_eq_false (by omega)
 go_enter Tryz.func24, Tryz.ntmps24
 go_wp2_with (fail)
 refine (within_yes (a := (W : Int)) (by omega) (by omega) _).mono ?_
 rintro e w1 ⟨rfl, ⟨n1, rfl⟩⟩
 go_wp2_with (fail)
 refine (within_yes (a := (H : Int)) (by omega) (by omega) _).mono ?_
 rintro e w1 ⟨rfl, ⟨n2, rfl⟩⟩
 go_wp2_with (fail)
 have HB0 := Aside0.mk (show Below w.heap.size w (((w.alloc (.cells #[.int .i64 0, .int .i64 0, .slice none 0 0] 78)).drewN n1).drewN n2) from by repeat (first | exact Below.refl _ _ | refine below_alloc ?_ _ | refine pw_below_drewN ?_ _))
 have HC0 := Aside0.mk (show (((w.alloc (.cells #[.int .i64 0, .int .i64 0, .slice none 0 0] 78)).drewN n1).drewN n2).heap[w.heap.size]? = some (.cells #[.int .i64 0, .int .i64 0, .slice none 0 0] 78 (0, 0)) from blk_new _ _)
 go_loopg [26] l.length (fun kq v26 w' => ∃ (k : Nat), v26 = .int .i64 k ∧ k + kq = l.length ∧ Aside0 (w'.heap[w.heap.size]? = some (.cells #[.int .i64 0, .int .i64 0, .slice none 0 0] 78 (0, 0))) ∧ Aside0 (Below w.heap.size w w'))
 case atStart => exact ⟨0, rfl, by omega, by simpa using HC0, by simpa using HB0⟩
 case round =>
  clear HB0 HC0
  obtain ⟨k, rfl, hk, HC, HB⟩ := hrel
  by_cases hlt : k < l.length
  ·have d2 : decide ((k : Int) < (l.length : Int)) = true := decide_eq_true (by omega)
   obtain ⟨ad, e0, hx0, hx1, hx2⟩ := at_T76 HR.out (k : Int) (by omega) (by omega)
   rw [Int.toNat_natCast] at hx0 hx1 hx2
   replace hx0 := (HB.out.cell (World.block_lt_of_cell? w _ hx0)).trans hx0
   replace hx1 := (HB.out.cell (World.block_lt_of_cell? w _ hx1)).trans hx1
   replace hx2 := (HB.out.cell (World.block_lt_of_cell? w _ hx2)).trans hx2
   cases e0
   have hlt' : (k : Int) < (l.length : Int) := by omega
   have k0 : (0 : Int) ≤ (k : Int) := by omega
   obtain ⟨b1, b2, b3, b4, b5, b6⟩ := of_decide_eq_true (HV.out _ (rd_mem k hlt))
   obtain ⟨bl, hbl⟩ : ∃ bl, bl = rd_T76 l (k : Int) := ⟨_, rfl⟩
   rw [← hbl] at hx0 hx1 hx2 b1 b2 b3 b4 b5 b6
   clear hbl
   go_wp2_with (fail)
   refine (within_yes (a := bl.f0) b1 b2 _).mono ?_
   rintro e w1 ⟨rfl, ⟨m1, rfl⟩⟩
   go_wp2_with (fail)
   refine (within_yes (a := bl.f1) b3 b4 _).mono ?_
   rintro e w1 ⟨rfl, ⟨m2, rfl⟩⟩
   go_wp2_with (fail)
   refine (within_yes (a := bl.f2) b5 b6 _).mono ?_
   rintro e w1 ⟨rfl, ⟨m3, rfl⟩⟩
   go_wp2_with (fail)
   go_roundg (l.length - (k + 1))
   case rel =>
    refine ⟨k + 1, by go_num, by omega, ⟨?_⟩, ⟨by repeat (first | exact HB.out | refine below_alloc ?_ _ | refine pw_below_drewN ?_ _)⟩⟩
    exact blk_alloc HC.out _
   case measure => omega
  ·have d2 : decide ((k : Int) < (l.length : Int)) = false := decide_eq_false (by omega)
   have q0 : wr.cell? ⟨w.heap.size, 0, none⟩ = some (.int .i64 0) := by simp [World.cell?, HC.out]
   have q1 : wr.cell? ⟨w.heap.size, 1, none⟩ = some (.int .i64 0) := by simp [World.cell?, HC.out]
   have q2 : wr.cell? ⟨w.heap.size, 2, none⟩ = some (.slice none 0 0) := by simp [World.cell?, HC.out]
   have r0 : ∀ j, wr.frozen? ⟨w.heap.size, j, none⟩ = false := fun j => by simp [World.frozen?, HC.out]
   go_wp2_with (fail)
   refine bodyPost_ret (results_ct rfl _ _ w.heap.size 78 #[.int .i64 W, .int .i64 H, .slice A0 l.length c0] (0, 0) _ rfl ?_ Tryz.underlying78 rfl (by kernel_rfl)) rfl ?_
   ·refine blk_put (cs := #[.int .i64 W, .int .i64 H, .slice none 0 0]) ?_ 2 _ rfl
    refine blk_put (cs := #[.int .i64 W, .int .i64 0, .slice none 0 0]) ?_ 1 _ rfl
    exact blk_put (cs := #[.int .i64 0, .int .i64 0, .slice none 0 0]) HC.out 0 _ rfl
   ·exact ⟨rfl, Below.setCell (p := ⟨w.heap.size, 2, none⟩) (Below.setCell (p := ⟨w.heap.size, 1, none⟩) (Below.setCell (p := ⟨w.heap.size, 0, none⟩) HB.out (Nat.le_refl _) _) (Nat.le_refl _) _) (Nat.le_refl _) _⟩
def planF (t : Tab) : Nat → Nat → Nat → Option (List S34)
 | 0, _, _ => none
 | k + 1, x, y =>
  if (t.S x y).1 = 2 then (if 1 ≤ (t.S x y).2 ∧ (t.S x y).2 < (x : Int) then (planF t k (t.S x y).2.toNat y).bind fun p => (planF t k (x - (t.S x y).2.toNat) y).bind fun q =>
   (if p.length + q.length < 100000 then some (⟨2, (t.S x y).2⟩ :: (p ++ q)) else none) else none) else
  if (t.S x y).1 = 3 then (if 1 ≤ (t.S x y).2 ∧ (t.S x y).2 < (y : Int) then (planF t k x (t.S x y).2.toNat).bind fun p => (planF t k x (y - (t.S x y).2.toNat)).bind fun q =>
   (if p.length + q.length < 100000 then some (⟨3, (t.S x y).2⟩ :: (p ++ q)) else none) else none) else
  some [⟨(t.S x y).1, (t.S x y).2⟩]
theorem steps_none (a b : Int) : carve_steps.f 1 a b [] = some [⟨a, b⟩] := rfl
theorem steps_two (a b : Int) (p q : List S34) (h : p.length + q.length < 100000) : carve_steps.f 3 a b [p, q] = some (⟨a, b⟩ :: (p ++ q)) := by
 unfold carve_steps.f
 have e0 : rd_L3 [p, q] 0 = p := rfl
 have e1 : rd_L3 [p, q] 1 = q := rfl
 have w1 : wrap64 (0 + 1) = 1 := w64_in _ (by omega) (by omega)
 have w2 : wrap64 (1 + 1) = 2 := w64_in _ (by omega) (by omega)
 simp only [carve_steps.l0, List.length_cons, List.length_nil]
 rw [if_pos (by decide), if_pos (by decide), if_pos (by decide), e0, w1, if_pos (by simp; omega), if_pos (by decide), if_pos (by decide), if_pos (by decide), e1, w2, if_pos (by simp; omega), if_neg (by decide)]
 simp
theorem two_C {w : World} {g : Nat} {A1 A2 : Option Addr} {c1 c2 : Nat} {p q : List S34} (h1 : w.cell? ⟨g, 0, none⟩ = some (.slice A1 p.length c1)) (h2 : w.cell? ⟨g, 1, none⟩ = some (.slice A2 q.length c2)) (l1 : p.length ≤ c1) (l2 : q.length ≤ c2)
  (r1 : Kd.C k34 w A1 p.length p) (r2 : Kd.C k34 w A2 q.length q) : Kd.C (Kd.slice 34 k34) w (some ⟨g, 0, none⟩) 2 [p, q] := by
 refine ⟨rfl, by omega, fun _ => ⟨_, rfl, fun j s hj => ?_⟩⟩
 match j with
 | 0 =>
  obtain rfl := Option.some.inj (show some p = some s from hj)
  refine ⟨[.slice A1 p.length c1], rfl, ⟨A1, c1, rfl, l1, r1⟩, fun i u hu => ?_⟩
  match i with
  | 0 => obtain rfl := Option.some.inj (show some _ = some u from hu); exact h1
  | i + 1 => simp at hu
 | 1 =>
  obtain rfl := Option.some.inj (show some q = some s from hj)
  refine ⟨[.slice A2 q.length c2], rfl, ⟨A2, c2, rfl, l2, r2⟩, fun i u hu => ?_⟩
  match i with
  | 0 => obtain rfl := Option.some.inj (show some _ = some u from hu); exact h2
  | i + 1 => simp at hu
 | j + 2 => simp at hj
set_option maxHeartbeats 8000000 in
set_option maxRecDepth 100000 in
theorem plan_leaf (b : Nat) (t : Tab) (x y : Nat) (w : World) (hx : x < 49) (hy : y < 49) (h : TabAt b t w) (h2 : (t.S x y).1 ≠ 2) (h3 : (t.S x y).1 ≠ 3) :
  Calls Tryz.prog 26 #[.pointer (some ⟨b, 0, none⟩), .int .i64 x, .int .i64 y] w fun e w' => ∃ v, e = .returned v ∧ Kd.R k34 34 w' w.heap.size (fun _ => True) v [⟨(t.S x y).1, (t.S x y).2⟩] ∧ Below w.heap.size w w' := by
 obtain ⟨_, c2, c3⟩ := h.1 x y hx hy
 have hb := h.2.2
 have x0 : (0 : Int) ≤ (x : Int) := by omega
 have x1 : (x : Int) < 49 := by omega
 have y0 : (0 : Int) ≤ (y : Int) := by omega
 have y1 : (y : Int) < 49 := by omega
 obtain ⟨K, hK⟩ : ∃ K, K = (t.S x y).1 := ⟨_, rfl⟩
 obtain ⟨a, ha⟩ : ∃ a, a = (t.S x y).2 := ⟨_, rfl⟩
 rw [← hK] at c2 h2 h3 ⊢
 rw [← ha] at c3 ⊢
 clear hK ha h
 have t1 : (K == 2) = false := beq_eq_false_iff_ne.2 h2
 have t2 : (K == 3) = false := beq_eq_false_iff_ne.2 h3
 clear h2 h3
 go_enter Tryz.func26, Tryz.ntmps26
 go_wp2_with (fail)
 refine (carve_steps.calls 1 K a none 0 [] _ _ (Kd.C_nil _ _) (Nat.le_refl _) (steps_none K a)).mono ?_
 rintro e w1 ⟨v, rfl, ho, hB⟩
 have HO := Aside0.mk ho
 have HB := Aside0.mk hB
 clear ho hB
 go_wp2_with (fail)
 go_ret
 exact ⟨_, rfl, Kd.R_lower HO.out (by simp), (below_alloc (Below.refl _ _) _).trans (HB.out.mono (by simp))⟩
set_option maxHeartbeats 8000000 in
set_option maxRecDepth 100000 in
theorem plan_across (b : Nat) (t : Tab) (x y : Nat) (w : World) (a : Nat) (p q : List S34) (hx : x < 49) (hy : y < 49) (h : TabAt b t w) (h2 : (t.S x y).1 = 2) (ha : (t.S x y).2 = (a : Int)) (ha1 : 1 ≤ a) (hax : a < x) (hpq : p.length + q.length < 100000)
  (ihp : ∀ w, TabAt b t w → Calls Tryz.prog 26 #[.pointer (some ⟨b, 0, none⟩), .int .i64 a, .int .i64 y] w fun e w' => ∃ v, e = .returned v ∧ Kd.R k34 34 w' w.heap.size (fun _ => True) v p ∧ Below w.heap.size w w')
  (ihq : ∀ w, TabAt b t w → Calls Tryz.prog 26 #[.pointer (some ⟨b, 0, none⟩), .int .i64 ((x - a : Nat) : Int), .int .i64 y] w fun e w' => ∃ v, e = .returned v ∧ Kd.R k34 34 w' w.heap.size (fun _ => True) v q ∧ Below w.heap.size w w') :
  Calls Tryz.prog 26 #[.pointer (some ⟨b, 0, none⟩), .int .i64 x, .int .i64 y] w fun e w' => ∃ v, e = .returned v ∧ Kd.R k34 34 w' w.heap.size (fun _ => True) v (⟨2, (a : Int)⟩ :: (p ++ q)) ∧ Below w.heap.size w w' := by
 obtain ⟨_, c2, c3⟩ := h.1 x y hx hy
 have HT := hid h
 have hb := h.2.2
 rw [h2] at c2
 rw [ha] at c3
 clear h h2 ha
 have x0 : (0 : Int) ≤ (x : Int) := by omega
 have x1 : (x : Int) < 49 := by omega
 have y0 : (0 : Int) ≤ (y : Int) := by omega
 have y1 : (y : Int) < 49 := by omega
 have s7 : IntKind.i64.wrap ((x : Int) - (a : Int)) = ((x - a : Nat) : Int) := by rw [IntWalk.i64_in _ (by omega)]; omega
 have IHP := hid ihp
 have IHQ := hid ihq
 clear ihp ihq
 go_enter Tryz.func26, Tryz.ntmps26
 go_wp2_with (fail)
 refine start_ (n := 16) (S := fun w' => w'.cell? ⟨w.heap.size, 0, none⟩ = some (.int .i64 2) ∧ w'.cell? ⟨w.heap.size, 1, none⟩ = some (.int .i64 (a : Int))) (ds := []) #[false, false, false, false, false, false, false, false, false, false, false, false, false, false, false, false] (by kernel_rfl) rfl rfl ⟨by simp [World.cell?_alloc_new], by simp [World.cell?_alloc_new]⟩ (fun hHeld => ?_)
 refine pure_ (i := 1) (N := some 23) (v := ?_) (a' := ?_) #[false, true, false, false, false, false, false, false, false, false, false, false, false, false, false, false] rfl rfl (by kernel_rfl) (fun _ _ _ h => h) (Or.inl ⟨by rfl, ?_⟩) ?_ ?_
 rotate_left
 ·intro w'
  go_simp
  with_reducible rfl
 rotate_left
 ·simp only [Act.put, List.setIfInBounds_toArray, List.set_cons_zero, List.set_cons_succ, i64_w, i32_w]
  rfl
 refine pure_ (i := 2) (N := some 24) (v := ?_) (a' := ?_) #[false, true, true, false, false, false, false, false, false, false, false, false, false, false, false, false] rfl rfl (by kernel_rfl) (fun _ _ _ h => h) (Or.inl ⟨by rfl, ?_⟩) ?_ ?_
 rotate_left
 ·intro w'
  go_simp
  with_reducible rfl
 rotate_left
 ·simp only [Act.put, List.setIfInBounds_toArray, List.set_cons_zero, List.set_cons_succ, i64_w, i32_w]
  rfl
 refine pure_ (i := 4) (N := some 26) (v := ?_) (a' := ?_) #[false, true, true, false, true, false, false, false, false, false, false, false, false, false, false, false] rfl rfl (by kernel_rfl) (fun _ _ _ h => h) (Or.inl ⟨by rfl, ?_⟩) ?_ ?_
 rotate_left
 ·intro w'
  go_simp
  with_reducible rfl
 rotate_left
 ·simp only [Act.put, List.setIfInBounds_toArray, List.set_cons_zero, List.set_cons_succ, i64_w, i32_w]
  rfl
 refine pure_ (i := 6) (N := some 28) (v := ?_) (a' := ?_) #[false, true, true, false, true, false, true, false, false, false, false, false, false, false, false, false] rfl rfl (by kernel_rfl) (fun _ _ _ h => h) (Or.inl ⟨by rfl, ?_⟩) ?_ ?_
 rotate_left
 ·intro w'
  go_simp
  with_reducible rfl
 rotate_left
 ·simp only [Act.put, List.setIfInBounds_toArray, List.set_cons_zero, List.set_cons_succ, i64_w, i32_w]
  rfl
 refine pure_ (i := 7) (N := some 29) (v := ?_) (a' := ?_) #[false, true, true, false, true, false, true, true, false, false, false, false, false, false, false, false] rfl rfl (by kernel_rfl) (fun _ _ _ h => h) (Or.inl ⟨by rfl, ?_⟩) ?_ ?_
 rotate_left
 ·intro w'
  go_simp
  with_reducible rfl
 rotate_left
 ·simp only [Act.put, List.setIfInBounds_toArray, List.set_cons_zero, List.set_cons_succ, i64_w, i32_w]
  rfl
 refine pure_ (i := 8) (N := some 30) (v := ?_) (a' := ?_) #[false, true, true, false, true, false, true, true, true, false, false, false, false, false, false, false] rfl rfl (by kernel_rfl) (fun _ _ _ h => h) (Or.inl ⟨by rfl, ?_⟩) ?_ ?_
 rotate_left
 ·intro w'
  go_simp
  with_reducible rfl
 rotate_left
 ·simp only [Act.put, List.setIfInBounds_toArray, List.set_cons_zero, List.set_cons_succ, i64_w, i32_w]
  rfl
 refine pure_ (i := 11) (N := some 33) (v := ?_) (a' := ?_) #[false, true, true, false, true, false, true, true, true, false, false, true, false, false, false, false] rfl rfl (by kernel_rfl) (fun _ _ _ h => h) (Or.inl ⟨by rfl, ?_⟩) ?_ ?_
 rotate_left
 ·intro w'
  go_simp
  with_reducible rfl
 rotate_left
 ·simp only [Act.put, List.setIfInBounds_toArray, List.set_cons_zero, List.set_cons_succ, i64_w, i32_w]
  rfl
 refine take_ (i := 0) (N := some 22) (v := ?_) (a' := ?_) #[true, true, true, false, true, false, true, true, true, false, false, true, false, false, false, false] rfl rfl (by kernel_rfl) (fun _ _ _ h => h) (Or.inl ⟨by rfl, ?_⟩) hHeld ?_ ?_
 rotate_left
 ·rintro w' ⟨s0, s1⟩
  go_simp
  with_reducible rfl
 rotate_left
 ·simp only [Act.put, List.setIfInBounds_toArray, List.set_cons_zero, List.set_cons_succ, i64_w, i32_w]
  rfl
 refine take_ (i := 3) (N := some 25) (v := ?_) (a' := ?_) #[true, true, true, true, true, false, true, true, true, false, false, true, false, false, false, false] rfl rfl (by kernel_rfl) (fun _ _ _ h => h) (Or.inl ⟨by rfl, ?_⟩) hHeld ?_ ?_
 rotate_left
 ·rintro w' ⟨s0, s1⟩
  go_simp
  with_reducible rfl
 rotate_left
 ·simp only [Act.put, List.setIfInBounds_toArray, List.set_cons_zero, List.set_cons_succ, i64_w, i32_w]
  rfl
 refine take_ (i := 9) (N := some 31) (v := ?_) (a' := ?_) #[true, true, true, true, true, false, true, true, true, true, false, true, false, false, false, false] rfl rfl (by kernel_rfl) (fun _ _ _ h => h) (Or.inl ⟨by rfl, ?_⟩) hHeld ?_ ?_
 rotate_left
 ·rintro w' ⟨s0, s1⟩
  go_simp
  with_reducible rfl
 rotate_left
 ·simp only [Act.put, List.setIfInBounds_toArray, List.set_cons_zero, List.set_cons_succ, i64_w, i32_w]
  rfl
 refine pure_ (i := 10) (N := some 32) (v := ?_) (a' := ?_) #[true, true, true, true, true, false, true, true, true, true, true, true, false, false, false, false] rfl rfl (by kernel_rfl) (fun _ _ _ h => h) (Or.inl ⟨by rfl, ?_⟩) ?_ ?_
 rotate_left
 ·intro w'
  go_simp
  with_reducible rfl
 rotate_left
 ·simp only [Act.put, List.setIfInBounds_toArray, List.set_cons_zero, List.set_cons_succ, i64_w, i32_w]
  rfl
 refine one_ (i := 5) (N := some 27) #[true, true, true, true, true, true, true, true, true, true, true, true, false, false, false, false] rfl rfl (by kernel_rfl) (by decide) (fun K hK => ?_)
 refine goes_ Tryz.func26 (by kernel_rfl) rfl #[.pointer (some ⟨b, 0, none⟩), .int .i64 (a : Int), .int .i64 (y : Int)] (by rfl) rfl rfl (by (try simp only [List.map_toArray, List.map_cons, List.map_nil]); first | done | rfl) ?_
 refine (IHP.out _ (HT.out.alloc _).drew).mono ?_
 rintro e w1 ⟨v1, rfl, ho, hB⟩
 obtain ⟨A1, k1, eR⟩ := Kd.R_slice ho
 subst eR
 have HO1 := Aside0.mk ho
 have HB1 := Aside0.mk hB
 have HT1 := hid ((HT.out.alloc _).drew.below hB)
 have g0 := (hB.cell (p := ⟨w.heap.size, 0, none⟩) (by simp)).trans (show _ = some (.int .i64 2) from by simp [World.cell?_alloc_new])
 have g1 := (hB.cell (p := ⟨w.heap.size, 1, none⟩) (by simp)).trans (show _ = some (.int .i64 (a : Int)) from by simp [World.cell?_alloc_new])
 clear ho hB
 refine ⟨_, rfl, ?_⟩
 refine hK.out _ _ ⟨g0, g1⟩ (fun hHeld => ?_)
 clear hK K
 refine norm_ (a' := ?_) ?_ ?_
 rotate_left
 ·show Act.put _ (some 27) _ = _
  simp only [Act.put, List.setIfInBounds_toArray, List.set_cons_zero, List.set_cons_succ, i64_w, i32_w]
  rfl
 refine one_ (i := 12) (N := some 34) #[true, true, true, true, true, true, true, true, true, true, true, true, true, false, false, false] rfl rfl (by kernel_rfl) (by decide) (fun K hK => ?_)
 refine goes_ Tryz.func26 (by kernel_rfl) rfl #[.pointer (some ⟨b, 0, none⟩), .int .i64 ((x - a : Nat) : Int), .int .i64 (y : Int)] (by rfl) rfl rfl (by (try simp only [List.map_toArray, List.map_cons, List.map_nil]); first | done | rfl) ?_
 refine (IHQ.out _ HT1.out).mono ?_
 rintro e w2 ⟨v2, rfl, ho, hB⟩
 obtain ⟨A2, k2, eR⟩ := Kd.R_slice ho
 subst eR
 have HO2 := Aside0.mk ho
 have HB2 := Aside0.mk hB
 have hn2 : w.heap.size < w2.heap.size := by have := HB1.out.size; have := HB2.out.size; simp at *; omega
 have g2 := (hB.cell (p := ⟨w.heap.size, 0, none⟩) (by have := HB1.out.size; simp at this ⊢; omega)).trans g0
 have g3 := (hB.cell (p := ⟨w.heap.size, 1, none⟩) (by have := HB1.out.size; simp at this ⊢; omega)).trans g1
 clear ho hB
 refine ⟨_, rfl, ?_⟩
 refine hK.out _ _ ⟨g2, g3⟩ (fun hHeld => ?_)
 clear hK K
 refine norm_ (a' := ?_) ?_ ?_
 rotate_left
 ·show Act.put _ (some 34) _ = _
  simp only [Act.put, List.setIfInBounds_toArray, List.set_cons_zero, List.set_cons_succ, i64_w, i32_w]
  rfl
 refine one_ (i := 13) (N := some 35) #[true, true, true, true, true, true, true, true, true, true, true, true, true, true, false, false] rfl rfl (by kernel_rfl) (by decide) (fun K hK => ?_)
 refine value_ (w1 := ?_) (v := ?_) (by rfl) rfl ?_ ?_
 rotate_left 2
 ·go_simp
  first | (refine ⟨?_, ?_⟩ <;> rfl) | rfl
 refine hK.out _ _ ⟨by rw [World.cell?_alloc_old _ _ _ (Nat.ne_of_lt hn2)]; exact g2, by rw [World.cell?_alloc_old _ _ _ (Nat.ne_of_lt hn2)]; exact g3⟩ (fun hHeld => ?_)
 clear hK K
 refine norm_ (a' := ?_) ?_ ?_
 rotate_left
 ·show Act.put _ (some 35) _ = _
  simp only [Act.put, List.setIfInBounds_toArray, List.set_cons_zero, List.set_cons_succ, i64_w, i32_w]
  rfl
 refine one_ (i := 14) (N := some 36) #[true, true, true, true, true, true, true, true, true, true, true, true, true, true, true, false] rfl rfl (by kernel_rfl) (by decide) (fun K hK => ?_)
 refine goes_ Tryz.func51 (by kernel_rfl) rfl #[.agg #[.int .i64 2, .int .i64 (a : Int)], .slice (some ⟨w2.heap.size, 0, none⟩) 2 2] (by rfl) rfl rfl (by (try simp only [List.map_toArray, List.map_cons, List.map_nil]); first | done | rfl) ?_
 refine (carve_steps.calls 3 2 (a : Int) (some ⟨w2.heap.size, 0, none⟩) 2 [p, q] _ _ (two_C (by simp [World.cell?_alloc_new]) (by simp [World.cell?_alloc_new]) (Kd.R_reads' HO1.out).2.1 (Kd.R_reads' HO2.out).2.1 (Kd.C_below (Kd.C_below (Kd.R_reads' HO1.out).2.2 HB2.out) (below_alloc (Below.refl _ _) _)) (Kd.C_below (Kd.R_reads' HO2.out).2.2 (below_alloc (Below.refl _ _) _))) (Nat.le_refl _) (steps_two 2 (a : Int) p q hpq)).mono ?_
 rintro e w3 ⟨v3, rfl, ho, hB⟩
 have HO3 := Aside0.mk ho
 have HB3 := Aside0.mk hB
 have g4 := (hB.cell (p := ⟨w.heap.size, 0, none⟩) (by simp; omega)).trans ((World.cell?_alloc_old _ _ _ (Nat.ne_of_lt hn2)).trans g2)
 have g5 := (hB.cell (p := ⟨w.heap.size, 1, none⟩) (by simp; omega)).trans ((World.cell?_alloc_old _ _ _ (Nat.ne_of_lt hn2)).trans g3)
 clear ho hB
 refine ⟨_, rfl, ?_⟩
 refine hK.out _ _ ⟨g4, g5⟩ (fun hHeld => ?_)
 clear hK K
 refine norm_ (a' := ?_) ?_ ?_
 rotate_left
 ·show Act.put _ (some 36) _ = _
  simp only [Act.put, List.setIfInBounds_toArray, List.set_cons_zero, List.set_cons_succ, i64_w, i32_w]
  rfl
 refine pure_ (i := 15) (N := some 6) (v := ?_) (a' := ?_) #[true, true, true, true, true, true, true, true, true, true, true, true, true, true, true, true] rfl rfl (by kernel_rfl) (fun _ _ _ h => h) (Or.inl ⟨by rfl, ?_⟩) ?_ ?_
 rotate_left
 ·intro w'
  go_simp
  with_reducible rfl
 rotate_left
 ·simp only [Act.put, List.setIfInBounds_toArray, List.set_cons_zero, List.set_cons_succ, i64_w, i32_w]
  rfl
 refine done_ (by kernel_rfl) ?_
 try go_wp2
 go_ret
 have z1 := HB1.out.size
 have z2 := HB2.out.size
 simp at z1
 refine ⟨_, rfl, Kd.R_lower HO3.out (by simp; omega), ?_⟩
 refine Below.trans (b := (w.alloc (.cells #[.int .i64 2, .int .i64 (a : Int)] 34)).drew) (below_drew1 (below_alloc (Below.refl _ _) _)) ?_
 refine (HB1.out.mono (by simp)).trans ((HB2.out.mono (by omega)).trans (Below.trans (below_alloc (Below.refl _ _) _ |>.mono (by omega)) (HB3.out.mono (by simp; omega))))
set_option maxHeartbeats 8000000 in
set_option maxRecDepth 100000 in
theorem plan_along (b : Nat) (t : Tab) (x y : Nat) (w : World) (a : Nat) (p q : List S34) (hx : x < 49) (hy : y < 49) (h : TabAt b t w) (h2 : (t.S x y).1 = 3) (ha : (t.S x y).2 = (a : Int)) (ha1 : 1 ≤ a) (hax : a < y) (hpq : p.length + q.length < 100000)
  (ihp : ∀ w, TabAt b t w → Calls Tryz.prog 26 #[.pointer (some ⟨b, 0, none⟩), .int .i64 x, .int .i64 a] w fun e w' => ∃ v, e = .returned v ∧ Kd.R k34 34 w' w.heap.size (fun _ => True) v p ∧ Below w.heap.size w w')
  (ihq : ∀ w, TabAt b t w → Calls Tryz.prog 26 #[.pointer (some ⟨b, 0, none⟩), .int .i64 x, .int .i64 ((y - a : Nat) : Int)] w fun e w' => ∃ v, e = .returned v ∧ Kd.R k34 34 w' w.heap.size (fun _ => True) v q ∧ Below w.heap.size w w') :
  Calls Tryz.prog 26 #[.pointer (some ⟨b, 0, none⟩), .int .i64 x, .int .i64 y] w fun e w' => ∃ v, e = .returned v ∧ Kd.R k34 34 w' w.heap.size (fun _ => True) v (⟨3, (a : Int)⟩ :: (p ++ q)) ∧ Below w.heap.size w w' := by
 obtain ⟨_, c2, c3⟩ := h.1 x y hx hy
 have HT := hid h
 have hb := h.2.2
 rw [h2] at c2
 rw [ha] at c3
 clear h h2 ha
 have x0 : (0 : Int) ≤ (x : Int) := by omega
 have x1 : (x : Int) < 49 := by omega
 have y0 : (0 : Int) ≤ (y : Int) := by omega
 have y1 : (y : Int) < 49 := by omega
 have s7 : IntKind.i64.wrap ((y : Int) - (a : Int)) = ((y - a : Nat) : Int) := by rw [IntWalk.i64_in _ (by omega)]; omega
 have IHP := hid ihp
 have IHQ := hid ihq
 clear ihp ihq
 go_enter Tryz.func26, Tryz.ntmps26
 go_wp2_with (fail)
 refine start_ (n := 16) (S := fun w' => w'.cell? ⟨w.heap.size, 0, none⟩ = some (.int .i64 3) ∧ w'.cell? ⟨w.heap.size, 1, none⟩ = some (.int .i64 (a : Int))) (ds := []) #[false, false, false, false, false, false, false, false, false, false, false, false, false, false, false, false] (by kernel_rfl) rfl rfl ⟨by simp [World.cell?_alloc_new], by simp [World.cell?_alloc_new]⟩ (fun hHeld => ?_)
 refine pure_ (i := 1) (N := some 40) (v := ?_) (a' := ?_) #[false, true, false, false, false, false, false, false, false, false, false, false, false, false, false, false] rfl rfl (by kernel_rfl) (fun _ _ _ h => h) (Or.inl ⟨by rfl, ?_⟩) ?_ ?_
 rotate_left
 ·intro w'
  go_simp
  with_reducible rfl
 rotate_left
 ·simp only [Act.put, List.setIfInBounds_toArray, List.set_cons_zero, List.set_cons_succ, i64_w, i32_w]
  rfl
 refine pure_ (i := 2) (N := some 41) (v := ?_) (a' := ?_) #[false, true, true, false, false, false, false, false, false, false, false, false, false, false, false, false] rfl rfl (by kernel_rfl) (fun _ _ _ h => h) (Or.inl ⟨by rfl, ?_⟩) ?_ ?_
 rotate_left
 ·intro w'
  go_simp
  with_reducible rfl
 rotate_left
 ·simp only [Act.put, List.setIfInBounds_toArray, List.set_cons_zero, List.set_cons_succ, i64_w, i32_w]
  rfl
 refine pure_ (i := 3) (N := some 42) (v := ?_) (a' := ?_) #[false, true, true, true, false, false, false, false, false, false, false, false, false, false, false, false] rfl rfl (by kernel_rfl) (fun _ _ _ h => h) (Or.inl ⟨by rfl, ?_⟩) ?_ ?_
 rotate_left
 ·intro w'
  go_simp
  with_reducible rfl
 rotate_left
 ·simp only [Act.put, List.setIfInBounds_toArray, List.set_cons_zero, List.set_cons_succ, i64_w, i32_w]
  rfl
 refine pure_ (i := 6) (N := some 45) (v := ?_) (a' := ?_) #[false, true, true, true, false, false, true, false, false, false, false, false, false, false, false, false] rfl rfl (by kernel_rfl) (fun _ _ _ h => h) (Or.inl ⟨by rfl, ?_⟩) ?_ ?_
 rotate_left
 ·intro w'
  go_simp
  with_reducible rfl
 rotate_left
 ·simp only [Act.put, List.setIfInBounds_toArray, List.set_cons_zero, List.set_cons_succ, i64_w, i32_w]
  rfl
 refine pure_ (i := 7) (N := some 46) (v := ?_) (a' := ?_) #[false, true, true, true, false, false, true, true, false, false, false, false, false, false, false, false] rfl rfl (by kernel_rfl) (fun _ _ _ h => h) (Or.inl ⟨by rfl, ?_⟩) ?_ ?_
 rotate_left
 ·intro w'
  go_simp
  with_reducible rfl
 rotate_left
 ·simp only [Act.put, List.setIfInBounds_toArray, List.set_cons_zero, List.set_cons_succ, i64_w, i32_w]
  rfl
 refine pure_ (i := 8) (N := some 47) (v := ?_) (a' := ?_) #[false, true, true, true, false, false, true, true, true, false, false, false, false, false, false, false] rfl rfl (by kernel_rfl) (fun _ _ _ h => h) (Or.inl ⟨by rfl, ?_⟩) ?_ ?_
 rotate_left
 ·intro w'
  go_simp
  with_reducible rfl
 rotate_left
 ·simp only [Act.put, List.setIfInBounds_toArray, List.set_cons_zero, List.set_cons_succ, i64_w, i32_w]
  rfl
 refine pure_ (i := 9) (N := some 48) (v := ?_) (a' := ?_) #[false, true, true, true, false, false, true, true, true, true, false, false, false, false, false, false] rfl rfl (by kernel_rfl) (fun _ _ _ h => h) (Or.inl ⟨by rfl, ?_⟩) ?_ ?_
 rotate_left
 ·intro w'
  go_simp
  with_reducible rfl
 rotate_left
 ·simp only [Act.put, List.setIfInBounds_toArray, List.set_cons_zero, List.set_cons_succ, i64_w, i32_w]
  rfl
 refine take_ (i := 0) (N := some 39) (v := ?_) (a' := ?_) #[true, true, true, true, false, false, true, true, true, true, false, false, false, false, false, false] rfl rfl (by kernel_rfl) (fun _ _ _ h => h) (Or.inl ⟨by rfl, ?_⟩) hHeld ?_ ?_
 rotate_left
 ·rintro w' ⟨s0, s1⟩
  go_simp
  with_reducible rfl
 rotate_left
 ·simp only [Act.put, List.setIfInBounds_toArray, List.set_cons_zero, List.set_cons_succ, i64_w, i32_w]
  rfl
 refine take_ (i := 4) (N := some 43) (v := ?_) (a' := ?_) #[true, true, true, true, true, false, true, true, true, true, false, false, false, false, false, false] rfl rfl (by kernel_rfl) (fun _ _ _ h => h) (Or.inl ⟨by rfl, ?_⟩) hHeld ?_ ?_
 rotate_left
 ·rintro w' ⟨s0, s1⟩
  go_simp
  with_reducible rfl
 rotate_left
 ·simp only [Act.put, List.setIfInBounds_toArray, List.set_cons_zero, List.set_cons_succ, i64_w, i32_w]
  rfl
 refine take_ (i := 10) (N := some 49) (v := ?_) (a' := ?_) #[true, true, true, true, true, false, true, true, true, true, true, false, false, false, false, false] rfl rfl (by kernel_rfl) (fun _ _ _ h => h) (Or.inl ⟨by rfl, ?_⟩) hHeld ?_ ?_
 rotate_left
 ·rintro w' ⟨s0, s1⟩
  go_simp
  with_reducible rfl
 rotate_left
 ·simp only [Act.put, List.setIfInBounds_toArray, List.set_cons_zero, List.set_cons_succ, i64_w, i32_w]
  rfl
 refine pure_ (i := 11) (N := some 50) (v := ?_) (a' := ?_) #[true, true, true, true, true, false, true, true, true, true, true, true, false, false, false, false] rfl rfl (by kernel_rfl) (fun _ _ _ h => h) (Or.inl ⟨by rfl, ?_⟩) ?_ ?_
 rotate_left
 ·intro w'
  go_simp
  with_reducible rfl
 rotate_left
 ·simp only [Act.put, List.setIfInBounds_toArray, List.set_cons_zero, List.set_cons_succ, i64_w, i32_w]
  rfl
 refine one_ (i := 5) (N := some 44) #[true, true, true, true, true, true, true, true, true, true, true, true, false, false, false, false] rfl rfl (by kernel_rfl) (by decide) (fun K hK => ?_)
 refine goes_ Tryz.func26 (by kernel_rfl) rfl #[.pointer (some ⟨b, 0, none⟩), .int .i64 (x : Int), .int .i64 (a : Int)] (by rfl) rfl rfl (by (try simp only [List.map_toArray, List.map_cons, List.map_nil]); first | done | rfl) ?_
 refine (IHP.out _ (HT.out.alloc _).drew).mono ?_
 rintro e w1 ⟨v1, rfl, ho, hB⟩
 obtain ⟨A1, k1, eR⟩ := Kd.R_slice ho
 subst eR
 have HO1 := Aside0.mk ho
 have HB1 := Aside0.mk hB
 have HT1 := hid ((HT.out.alloc _).drew.below hB)
 have g0 := (hB.cell (p := ⟨w.heap.size, 0, none⟩) (by simp)).trans (show _ = some (.int .i64 3) from by simp [World.cell?_alloc_new])
 have g1 := (hB.cell (p := ⟨w.heap.size, 1, none⟩) (by simp)).trans (show _ = some (.int .i64 (a : Int)) from by simp [World.cell?_alloc_new])
 clear ho hB
 refine ⟨_, rfl, ?_⟩
 refine hK.out _ _ ⟨g0, g1⟩ (fun hHeld => ?_)
 clear hK K
 refine norm_ (a' := ?_) ?_ ?_
 rotate_left
 ·show Act.put _ (some 44) _ = _
  simp only [Act.put, List.setIfInBounds_toArray, List.set_cons_zero, List.set_cons_succ, i64_w, i32_w]
  rfl
 refine one_ (i := 12) (N := some 51) #[true, true, true, true, true, true, true, true, true, true, true, true, true, false, false, false] rfl rfl (by kernel_rfl) (by decide) (fun K hK => ?_)
 refine goes_ Tryz.func26 (by kernel_rfl) rfl #[.pointer (some ⟨b, 0, none⟩), .int .i64 (x : Int), .int .i64 ((y - a : Nat) : Int)] (by rfl) rfl rfl (by (try simp only [List.map_toArray, List.map_cons, List.map_nil]); first | done | rfl) ?_
 refine (IHQ.out _ HT1.out).mono ?_
 rintro e w2 ⟨v2, rfl, ho, hB⟩
 obtain ⟨A2, k2, eR⟩ := Kd.R_slice ho
 subst eR
 have HO2 := Aside0.mk ho
 have HB2 := Aside0.mk hB
 have hn2 : w.heap.size < w2.heap.size := by have := HB1.out.size; have := HB2.out.size; simp at *; omega
 have g2 := (hB.cell (p := ⟨w.heap.size, 0, none⟩) (by have := HB1.out.size; simp at this ⊢; omega)).trans g0
 have g3 := (hB.cell (p := ⟨w.heap.size, 1, none⟩) (by have := HB1.out.size; simp at this ⊢; omega)).trans g1
 clear ho hB
 refine ⟨_, rfl, ?_⟩
 refine hK.out _ _ ⟨g2, g3⟩ (fun hHeld => ?_)
 clear hK K
 refine norm_ (a' := ?_) ?_ ?_
 rotate_left
 ·show Act.put _ (some 51) _ = _
  simp only [Act.put, List.setIfInBounds_toArray, List.set_cons_zero, List.set_cons_succ, i64_w, i32_w]
  rfl
 refine one_ (i := 13) (N := some 52) #[true, true, true, true, true, true, true, true, true, true, true, true, true, true, false, false] rfl rfl (by kernel_rfl) (by decide) (fun K hK => ?_)
 refine value_ (w1 := ?_) (v := ?_) (by rfl) rfl ?_ ?_
 rotate_left 2
 ·go_simp
  first | (refine ⟨?_, ?_⟩ <;> rfl) | rfl
 refine hK.out _ _ ⟨by rw [World.cell?_alloc_old _ _ _ (Nat.ne_of_lt hn2)]; exact g2, by rw [World.cell?_alloc_old _ _ _ (Nat.ne_of_lt hn2)]; exact g3⟩ (fun hHeld => ?_)
 clear hK K
 refine norm_ (a' := ?_) ?_ ?_
 rotate_left
 ·show Act.put _ (some 52) _ = _
  simp only [Act.put, List.setIfInBounds_toArray, List.set_cons_zero, List.set_cons_succ, i64_w, i32_w]
  rfl
 refine one_ (i := 14) (N := some 53) #[true, true, true, true, true, true, true, true, true, true, true, true, true, true, true, false] rfl rfl (by kernel_rfl) (by decide) (fun K hK => ?_)
 refine goes_ Tryz.func51 (by kernel_rfl) rfl #[.agg #[.int .i64 3, .int .i64 (a : Int)], .slice (some ⟨w2.heap.size, 0, none⟩) 2 2] (by rfl) rfl rfl (by (try simp only [List.map_toArray, List.map_cons, List.map_nil]); first | done | rfl) ?_
 refine (carve_steps.calls 3 3 (a : Int) (some ⟨w2.heap.size, 0, none⟩) 2 [p, q] _ _ (two_C (by simp [World.cell?_alloc_new]) (by simp [World.cell?_alloc_new]) (Kd.R_reads' HO1.out).2.1 (Kd.R_reads' HO2.out).2.1 (Kd.C_below (Kd.C_below (Kd.R_reads' HO1.out).2.2 HB2.out) (below_alloc (Below.refl _ _) _)) (Kd.C_below (Kd.R_reads' HO2.out).2.2 (below_alloc (Below.refl _ _) _))) (Nat.le_refl _) (steps_two 3 (a : Int) p q hpq)).mono ?_
 rintro e w3 ⟨v3, rfl, ho, hB⟩
 have HO3 := Aside0.mk ho
 have HB3 := Aside0.mk hB
 have g4 := (hB.cell (p := ⟨w.heap.size, 0, none⟩) (by simp; omega)).trans ((World.cell?_alloc_old _ _ _ (Nat.ne_of_lt hn2)).trans g2)
 have g5 := (hB.cell (p := ⟨w.heap.size, 1, none⟩) (by simp; omega)).trans ((World.cell?_alloc_old _ _ _ (Nat.ne_of_lt hn2)).trans g3)
 clear ho hB
 refine ⟨_, rfl, ?_⟩
 refine hK.out _ _ ⟨g4, g5⟩ (fun hHeld => ?_)
 clear hK K
 refine norm_ (a' := ?_) ?_ ?_
 rotate_left
 ·show Act.put _ (some 53) _ = _
  simp only [Act.put, List.setIfInBounds_toArray, List.set_cons_zero, List.set_cons_succ, i64_w, i32_w]
  rfl
 refine pure_ (i := 15) (N := some 6) (v := ?_) (a' := ?_) #[true, true, true, true, true, true, true, true, true, true, true, true, true, true, true, true] rfl rfl (by kernel_rfl) (fun _ _ _ h => h) (Or.inl ⟨by rfl, ?_⟩) ?_ ?_
 rotate_left
 ·intro w'
  go_simp
  with_reducible rfl
 rotate_left
 ·simp only [Act.put, List.setIfInBounds_toArray, List.set_cons_zero, List.set_cons_succ, i64_w, i32_w]
  rfl
 refine done_ (by kernel_rfl) ?_
 try go_wp2
 go_ret
 have z1 := HB1.out.size
 have z2 := HB2.out.size
 simp at z1
 refine ⟨_, rfl, Kd.R_lower HO3.out (by simp; omega), ?_⟩
 refine Below.trans (b := (w.alloc (.cells #[.int .i64 3, .int .i64 (a : Int)] 34)).drew) (below_drew1 (below_alloc (Below.refl _ _) _)) ?_
 refine (HB1.out.mono (by simp)).trans ((HB2.out.mono (by omega)).trans (Below.trans (below_alloc (Below.refl _ _) _ |>.mono (by omega)) (HB3.out.mono (by simp; omega))))
theorem plan_walk (b : Nat) (t : Tab) (k : Nat) : ∀ (x y : Nat) (r : List S34) (w : World), x < 49 → y < 49 → TabAt b t w → planF t k x y = some r →
  Calls Tryz.prog 26 #[.pointer (some ⟨b, 0, none⟩), .int .i64 x, .int .i64 y] w fun e w' => ∃ v, e = .returned v ∧ Kd.R k34 34 w' w.heap.size (fun _ => True) v r ∧ Below w.heap.size w w' := by
 induction k with
 | zero => intro x y r w _ _ _ h; exact absurd h (by simp [planF])
 | succ k ih =>
  intro x y r w hx hy hT h
  unfold planF at h
  by_cases h2 : (t.S x y).1 = 2
  ·rw [if_pos h2] at h
   by_cases ha : 1 ≤ (t.S x y).2 ∧ (t.S x y).2 < (x : Int)
   ·rw [if_pos ha] at h
    obtain ⟨p, hp, h⟩ := Option.bind_eq_some_iff.mp h
    obtain ⟨q, hq, h⟩ := Option.bind_eq_some_iff.mp h
    by_cases hl : p.length + q.length < 100000
    ·rw [if_pos hl] at h
     obtain rfl := Option.some.inj h
     obtain ⟨a, hA⟩ := Int.eq_ofNat_of_zero_le (show 0 ≤ (t.S x y).2 by omega)
     rw [hA, Int.toNat_natCast] at hp hq
     rw [hA] at ha ⊢
     exact plan_across b t x y w a p q hx hy hT h2 hA (by omega) (by omega) hl (fun w hT => ih a y p w (by omega) hy hT hp) (fun w hT => ih (x - a) y q w (by omega) hy hT hq)
    ·rw [if_neg hl] at h; exact absurd h (by simp)
   ·rw [if_neg ha] at h; exact absurd h (by simp)
  ·rw [if_neg h2] at h
   by_cases h3 : (t.S x y).1 = 3
   ·rw [if_pos h3] at h
    by_cases ha : 1 ≤ (t.S x y).2 ∧ (t.S x y).2 < (y : Int)
    ·rw [if_pos ha] at h
     obtain ⟨p, hp, h⟩ := Option.bind_eq_some_iff.mp h
     obtain ⟨q, hq, h⟩ := Option.bind_eq_some_iff.mp h
     by_cases hl : p.length + q.length < 100000
     ·rw [if_pos hl] at h
      obtain rfl := Option.some.inj h
      obtain ⟨a, hA⟩ := Int.eq_ofNat_of_zero_le (show 0 ≤ (t.S x y).2 by omega)
      rw [hA, Int.toNat_natCast] at hp hq
      rw [hA] at ha ⊢
      exact plan_along b t x y w a p q hx hy hT h3 hA (by omega) (by omega) hl (fun w hT => ih x a p w hx (by omega) hT hp) (fun w hT => ih x (y - a) q w hx (by omega) hT hq)
     ·rw [if_neg hl] at h; exact absurd h (by simp)
    ·rw [if_neg ha] at h; exact absurd h (by simp)
   ·rw [if_neg h3] at h
    obtain rfl := Option.some.inj h
    exact plan_leaf b t x y w hx hy hT h2 h3
end Go.Proofs.YtiioklboaookiaaGreatDoor.Q
namespace Go.Proofs.YtiioklboaookiaaGreatDoor.Q
open Go.RowKit Go.Proofs.YtiioklboaookiaaGreatDoorW.PrintWords Go.Proofs.YtiioklboaookiaaGreatDoorW.PrintLast Go.Proofs.YtiioklboaookiaaGreatDoor.Hand Go.Proofs.YtiioklboaookiaaGreatDoorW.PrintMore
attribute [local go_sem] max2_int min2_int max_two min_two max_three min_three max_four min_four
set_option linter.unusedVariables false
set_option linter.unusedSimpArgs false
def kRow : Kd (Option Addr × Nat × Nat) := Kd.scalar (fun x => Value.slice x.1 x.2.1 x.2.2) (fun _ => rfl)
theorem infoInt3 : (Tryz.prog.info? 3).map (fun i => (i.zero, i.size, i.bytes)) = some (some (.int .i64 0), 1, 8) := by kernel_rfl
theorem infoRow : (Tryz.prog.info? 43).map (fun i => (i.zero, i.size, i.bytes)) = some (some (.slice none 0 0), 1, 24) := by kernel_rfl
theorem R_empty (W : World) (base : Nat) (hb : base ≤ W.heap.size) : Kd.R (Kd.int .i64) 3 (W.alloc (.cells #[] 3)) base (fun _ => True) (.slice (some ⟨W.heap.size, 0, none⟩) 0 0) [] := by
 refine Kd.R_of_own (h1 := fun _ => rfl) ?_ (fun _ _ => trivial)
 exact ⟨rfl, .inr ⟨W.heap.size, 0, #[], rfl, hb, blk_new _ _, by simp, by decide, by simp, by simp [encs]⟩⟩
theorem TabAt.row {b : Nat} {t : Tab} {w : World} (h : TabAt b t w) (x n : Nat) (hx : x < 49) (hn : n ≤ 49) : Kd.C (Kd.int .i64) w (some ⟨b, x * 49, none⟩) n ((List.range n).map fun j => t.T x j) := by
 refine Kd.C_of_reads (enc := Value.int .i64) (h1 := fun _ => rfl) (d := (0 : Int)) ⟨by simp, by omega, fun _ => ⟨_, rfl, fun j hj => ?_⟩⟩
 rw [Go.WideShapes.add_plain, (h.1 x j hx (by omega)).1]
 simp [List.getD_eq_getElem?_getD, hj]
set_option maxHeartbeats 16000000 in
set_option maxRecDepth 100000 in
theorem Best_walk (k W H : Nat) (A0 : Option Addr) (c0 : Nat) (l : List S76) (r : List S34) (w : World) (hW0 : 1 ≤ W) (hW : W < 49) (hH0 : 1 ≤ H) (hH : H < 49) (hl : l.length ≤ 16) (hr : Kd.C k76 w A0 l.length l) (hv : ∀ x, x ∈ l → blankOk x = true) (hp : planF (fillT l W H) k W H = some r) :
  Calls Tryz.prog 8 #[.int .i64 W, .int .i64 H, .slice A0 l.length c0] w fun e w' => ∃ v0 v1, e = .returned (.tuple #[v0, v1, .int .i64 0]) ∧ Kd.R k34 34 w' w.heap.size (fun _ => True) v0 r ∧ Below w.heap.size w w' := by
 have HR := Aside0.mk hr
 have HV := hid hv
 have HP := hid hp
 clear hr hv hp
 have s1 : IntKind.i64.wrap ((W : Int) + 1) = (W : Int) + 1 := IntWalk.i64_in _ (by omega)
 have s2 : IntKind.i64.wrap ((H : Int) + 1) = (H : Int) + 1 := IntWalk.i64_in _ (by omega)
 go_enter Tryz.func8, Tryz.ntmps8
 go_wp2_with (fail)
 refine (newTask_walk W H A0 c0 l w hW0 hW hH0 hH hl HR.out HV.out).mono ?_
 rintro e w1 ⟨rfl, hB⟩
 have HB1 := Aside0.mk hB
 clear hB
 go_wp2_with (fail)
 refine (fill_walk W H A0 c0 l _ hW hH hl (Kd.C_below (Kd.C_below HR.out HB1.out) (below_alloc (Below.refl _ _) _))).mono ?_
 rintro e w2 ⟨b, rfl, hb, hT, hB⟩
 have HB2 : Aside0 (Below w.heap.size w w2) := ⟨HB1.out.trans ((below_alloc (Below.refl _ _) _ |>.mono HB1.out.size).trans (hB.mono (by have := HB1.out.size; simp; omega)))⟩
 have HT2 := Aside0.mk hT
 have hbw : w.heap.size ≤ b := by have := HB1.out.size; simp at hb; omega
 clear hB hT hb
 go_wp2_with (fail)
 go_loopg [12, 28] (W + 1) (fun kq v12 v28 w' => ∃ (i : Nat) (xs : List (Option Addr × Nat × Nat)), v28 = .int .i64 i ∧ i + kq = W + 1 ∧ xs.length ≤ i ∧ Aside0 (Kd.R kRow 43 w' w2.heap.size (fun _ => True) v12 xs) ∧ Aside0 (Below w2.heap.size w2 w'))
 case atStart => exact ⟨0, [], rfl, by omega, by simp, ⟨Kd.R_nil _ _ _ _ _⟩, ⟨Below.refl _ _⟩⟩
 case round =>
  obtain ⟨i, xs, rfl, hi, hxs, HO, HB⟩ := hrel
  obtain ⟨Ao, co, eo⟩ := Kd.R_slice HO.out
  subst eo
  by_cases hlt : i < W + 1
  ·have d1 : decide ((i : Int) < (W : Int) + 1) = true := decide_eq_true (by omega)
   have i0 : (0 : Int) ≤ (i : Int) := by omega
   have i1 : (i : Int) < 49 := by omega
   have h0 : (0 : Int) ≤ (H : Int) + 1 := by omega
   have h1 : (H : Int) + 1 ≤ 49 := by omega
   obtain ⟨ys, hys⟩ : ∃ ys : List Int, ys = (List.range (H + 1)).map fun j => (fillT l W H).T i j := ⟨_, rfl⟩
   have HYS := hid (TabAt.row (TabAt.below (HT2.out.below HB.out) (below_alloc (Below.refl _ _) (.cells #[] 3))) i (H + 1) (by omega) (by omega))
   rw [← hys] at HYS
   have HYL := hid (show ys.length = H + 1 by rw [hys]; simp)
   clear hys
   go_wp2_with (first
    | ((with_reducible refine gate_builtin (b := .append) (xs := #[.tmp 32, .tmp 40]) rfl ?_); at_builtin; refine Kd.R_append_row (Value.int .i64) (0 : Int) (h1 := fun _ => rfl) (w0 := w2) w2.heap.size rfl (.tmp 32) (.tmp 40) 43 3 (.int .i64 0) 8 rfl Tryz.underlying43 infoInt3 rfl (by decide) (.slice (some ⟨wr.heap.size, 0, none⟩) 0 0) [] ys (some ⟨b, i * 49, none⟩) (H + 1) 49 (fun _ => True) rfl rfl (fun _ _ => trivial) (R_empty wr w2.heap.size HB.out.size) HYS.out (below_alloc HB.out _) ?aS ?aL ?_; (case aS => have := HB.out.size; simp; omega); (case aL => simp; omega); intro v5 w5 ho hb hg hat; rw [List.nil_append] at ho; obtain ⟨A5, c5, e5⟩ := Kd.R_slice ho; subst e5; have HB5 := Aside0.mk hb; have HO5 : Aside0 (Kd.R kRow 43 w5 w2.heap.size (fun _ => True) (.slice Ao xs.length co) xs) := ⟨Kd.R_step HO.out (fun k _ hk => (hg.block k (by simp; omega) (by simp [Value.ownBlock]; omega)).trans (heap_old _ _ k hk))⟩; clear ho hb hg hat)
    | ((with_reducible refine gate_builtin (b := .append) (xs := #[.tmp 31, .tmp 42]) rfl ?_); at_builtin; refine Kd.R_append kRow (w0 := w2) w2.heap.size rfl (.tmp 31) (.tmp 42) 28 43 (.slice none 0 0) 24 rfl Tryz.underlying28 infoRow rfl (by decide) (by omega) (.slice Ao xs.length co) xs (A5, ys.length, c5) [.slice A5 ys.length c5] (fun _ => True) (fun _ => False) rfl (by first | (go_simp; done) | (go_simp; rfl)) rfl (fun _ hk => hk.elim) (fun _ _ => trivial) HO5.out HB5.out HB5.out.size ?aL ?_; (case aL => omega); intro v6 w6 ho hb hg hat; have HO6 := Aside0.mk ho; have HB6 := Aside0.mk hb; clear ho hb hg hat))
   go_roundg (W - i)
   case rel => exact ⟨i + 1, _, by go_num, by omega, by rw [List.length_append]; simp; omega, HO6, HB6⟩
   case measure => omega
  ·have d1 : decide ((i : Int) < (W : Int) + 1) = false := decide_eq_false (by omega)
   go_wp2_with (fail)
   refine (plan_walk b (fillT l W H) k W H r wr hW hH (HT2.out.below HB.out) HP.out).mono ?_
   rintro e w3 ⟨v, rfl, ho, hB⟩
   have HO3 := Aside0.mk ho
   have HB3 := Aside0.mk hB
   clear ho hB
   go_wp2_with (fail)
   go_ret3
   have z2 := HB2.out.size
   have z3 := HB.out.size
   exact ⟨_, _, rfl, Kd.R_lower HO3.out (by omega), (HB2.out.trans (HB.out.mono z2)).trans (HB3.out.mono (by omega))⟩
end Go.Proofs.YtiioklboaookiaaGreatDoor.Q
namespace Go.Proofs.YtiioklboaookiaaGreatDoor.Q
open Go.RowKit Go.Proofs.YtiioklboaookiaaGreatDoorW.PrintWords Go.Proofs.YtiioklboaookiaaGreatDoorW.PrintLast Go.Proofs.YtiioklboaookiaaGreatDoor.Hand Go.Proofs.YtiioklboaookiaaGreatDoorW.PrintMore
attribute [local go_sem] max2_int min2_int max_two min_two max_three min_three max_four min_four
set_option linter.unusedVariables false
set_option linter.unusedSimpArgs false
def pieceV (B : Nat) : Value := .func (.func 94) #[] #[.pointer (some ⟨B + 4, 0, none⟩), .pointer (some ⟨B + 1, 0, none⟩), .pointer (some ⟨B, 0, none⟩), .pointer (some ⟨B + 3, 0, none⟩), .pointer (some ⟨B + 5, 0, none⟩)]
structure RdAt (B W H : Nat) (bl pl : Value) (i : Nat) (s ar : Int) (w : World) : Prop where
 x : w.heap[B]? = some (.cells #[.int .i64 W, .int .i64 H, bl] 78 (0, 0))
 p : w.heap[B + 1]? = some (.cells #[pl] 27 (0, 0))
 r : w.heap[B + 2]? = some (.cells #[.int .i64 0, .int .i64 0] 98 (0, 0))
 s : w.heap[B + 3]? = some (.cells #[.int .i64 s, .int .i64 ar] 98 (0, 0))
 a : w.heap[B + 4]? = some (.cells #[.int .i64 i] 3 (0, 0))
 f : w.heap[B + 5]? = some (.cells #[pieceV B] 143 (0, 0))
structure RdKeep (B : Nat) (w w' : World) : Prop where
 bel : Below B w w'
 blk : ∀ k, k < w.heap.size → k ≠ B + 3 → k ≠ B + 4 → w'.heap[k]? = w.heap[k]?
theorem RdKeep.size {B : Nat} {w w' : World} (h : RdKeep B w w') : w.heap.size ≤ w'.heap.size := h.bel.size
theorem RdKeep.trans {B : Nat} {a b c : World} (h : RdKeep B a b) (k : RdKeep B b c) : RdKeep B a c :=
 ⟨h.bel.trans k.bel, fun i hi h3 h4 => (k.blk i (Nat.lt_of_lt_of_le hi h.size) h3 h4).trans (h.blk i hi h3 h4)⟩
theorem RdKeep.of {B : Nat} {w w' : World} (h : Below w.heap.size w w') (hB : B ≤ w.heap.size) : RdKeep B w w' := ⟨h.mono hB, fun k hk _ _ => h.block k hk⟩
theorem RdKeep.set {B : Nat} {w w' : World} (h : RdKeep B w w') {p : Addr} (hp : p.block = B + 3 ∨ p.block = B + 4 ∨ w.heap.size ≤ p.block) (hB : B ≤ w.heap.size) (v : Value) : RdKeep B w (w'.setCell p v) :=
 ⟨h.bel.setCell (by omega) v, fun k hk h3 h4 => (Below.heap_setCell w' p v k (by omega)).trans (h.blk k hk h3 h4)⟩
theorem RdAt.lt {B W H : Nat} {bl pl : Value} {i : Nat} {s ar : Int} {w : World} (h : RdAt B W H bl pl i s ar w) : B + 5 < w.heap.size := lt_of_some h.f
def readF (l : List S76) (P : List S34) : Nat → Nat → Nat → Nat → Int → Int → Option (Nat × Int × Int)
 | 0, _, _, _, _, _ => none
 | k + 1, x, y, i, s, ar => if i < P.length then
  (let t := rd_T34 P (i : Int)
  if t.f0 = 0 then (if t.f1 = 0 then some (i + 1, s, ar) else none) else
  if t.f0 = 1 then (if 0 ≤ t.f1 ∧ t.f1 < (l.length : Int) then
   (let b := rd_T76 l t.f1
   if b.f0 ≤ (x : Int) ∧ b.f1 ≤ (y : Int) then some (i + 1, wrap64 (s + b.f2), wrap64 (ar + wrap64 (b.f0 * b.f1))) else none) else none) else
  if t.f0 = 2 then (if 1 ≤ t.f1 ∧ t.f1 < (x : Int) then (readF l P k t.f1.toNat y (i + 1) s ar).bind fun r => readF l P k (x - t.f1.toNat) y r.1 r.2.1 r.2.2 else none) else
  if t.f0 = 3 then (if 1 ≤ t.f1 ∧ t.f1 < (y : Int) then (readF l P k x t.f1.toNat (i + 1) s ar).bind fun r => readF l P k x (y - t.f1.toNat) r.1 r.2.1 r.2.2 else none) else none) else none
def PieceSaid (W0 : World) (B W H : Nat) (bl pl : Value) (x y i : Nat) (s ar : Int) (i' : Nat) (s' ar' : Int) : Prop := ∀ w, Below B W0 w → RdAt B W H bl pl i s ar w →
 Calls Tryz.prog 94 #[.int .i64 x, .int .i64 y, .pointer (some ⟨B + 4, 0, none⟩), .pointer (some ⟨B + 1, 0, none⟩), .pointer (some ⟨B, 0, none⟩), .pointer (some ⟨B + 3, 0, none⟩), .pointer (some ⟨B + 5, 0, none⟩)] w fun e w' => e = .returned (.bool true) ∧ RdAt B W H bl pl i' s' ar' w' ∧ RdKeep B w w'
theorem RdAt.step {B W H : Nat} {bl pl : Value} {i : Nat} {s ar : Int} {w : World} (h : RdAt B W H bl pl i s ar w) (o : Obj) : RdAt B W H bl pl (i + 1) s ar ((w.setCell ⟨B + 4, 0, none⟩ (.int .i64 ((i : Int) + 1))).alloc o) where
 x := blk_alloc ((Below.heap_setCell w ⟨B + 4, 0, none⟩ _ B (show B ≠ B + 4 by omega)).trans h.x) o
 p := blk_alloc ((Below.heap_setCell w ⟨B + 4, 0, none⟩ _ (B + 1) (show B + 1 ≠ B + 4 by omega)).trans h.p) o
 r := blk_alloc ((Below.heap_setCell w ⟨B + 4, 0, none⟩ _ (B + 2) (show B + 2 ≠ B + 4 by omega)).trans h.r) o
 s := blk_alloc ((Below.heap_setCell w ⟨B + 4, 0, none⟩ _ (B + 3) (show B + 3 ≠ B + 4 by omega)).trans h.s) o
 a := blk_alloc (blk_put h.a 0 _ rfl) o
 f := blk_alloc ((Below.heap_setCell w ⟨B + 4, 0, none⟩ _ (B + 5) (show B + 5 ≠ B + 4 by omega)).trans h.f) o
theorem RdKeep.step {B : Nat} {w : World} (hB : B + 5 < w.heap.size) (v : Value) (o : Obj) : RdKeep B w ((w.setCell ⟨B + 4, 0, none⟩ v).alloc o) := by
 have h1 : RdKeep B w (w.setCell ⟨B + 4, 0, none⟩ v) := RdKeep.set (RdKeep.of (Below.refl _ _) (by omega)) (p := ⟨B + 4, 0, none⟩) (.inr (.inl rfl)) (by omega) v
 exact h1.trans (RdKeep.of (below_alloc (Below.refl _ _) o) (by simp; omega))
theorem RdAt.more {B W H : Nat} {bl pl : Value} {i : Nat} {s ar : Int} {w w1 : World} (h : RdAt B W H bl pl i s ar w) (hb : Below w.heap.size w w1) : RdAt B W H bl pl i s ar w1 := by
 have := h.lt
 exact ⟨(hb.block _ (by omega)).trans h.x, (hb.block _ (by omega)).trans h.p, (hb.block _ (by omega)).trans h.r, (hb.block _ (by omega)).trans h.s, (hb.block _ (by omega)).trans h.a, (hb.block _ (by omega)).trans h.f⟩
theorem RdAt.sum {B W H : Nat} {bl pl : Value} {i : Nat} {s ar : Int} {w : World} (h : RdAt B W H bl pl i s ar w) (s' ar' : Int) : RdAt B W H bl pl i s' ar' ((w.setCell ⟨B + 3, 0, none⟩ (.int .i64 s')).setCell ⟨B + 3, 1, none⟩ (.int .i64 ar')) := by
 have far : ∀ k, k ≠ B + 3 → ((w.setCell ⟨B + 3, 0, none⟩ (.int .i64 s')).setCell ⟨B + 3, 1, none⟩ (.int .i64 ar')).heap[k]? = w.heap[k]? := fun k hk =>
  (Below.heap_setCell _ ⟨B + 3, 1, none⟩ _ k hk).trans (Below.heap_setCell w ⟨B + 3, 0, none⟩ _ k hk)
 exact ⟨(far _ (by omega)).trans h.x, (far _ (by omega)).trans h.p, (far _ (by omega)).trans h.r, blk_put (blk_put h.s 0 _ rfl) 1 _ rfl, (far _ (by omega)).trans h.a, (far _ (by omega)).trans h.f⟩
set_option maxHeartbeats 8000000 in
set_option maxRecDepth 100000 in
theorem piece_waste (W0 : World) (B W H : Nat) (A0 : Option Addr) (c0 : Nat) (l : List S76) (A1 : Option Addr) (c1 : Nat) (P : List S34) (hP : P.length ≤ 8192) (hl : l.length ≤ 16) (hr : ∀ w, Below B W0 w → Kd.C k34 w A1 P.length P) (hrb : ∀ w, Below B W0 w → Kd.C k76 w A0 l.length l) (x y i : Nat) (s ar : Int) (hi : i < P.length)
  (h0 : (rd_T34 P (i : Int)).f0 = 0) (h1 : (rd_T34 P (i : Int)).f1 = 0) : PieceSaid W0 B W H (.slice A0 l.length c0) (.slice A1 P.length c1) x y i s ar (i + 1) s ar := by
 intro w hb0 h
 obtain ⟨ad, e0, hx0, hx1⟩ := at_T34 (hr w hb0) (i : Int) (by omega) (by omega)
 rw [Int.toNat_natCast] at hx0 hx1
 rw [h0] at hx0
 rw [h1] at hx1
 cases e0
 have hlt := h.lt
 have n5 : B + 5 < w.heap.size := by omega
 have n4 : B + 4 < w.heap.size := by omega
 have n3 : B + 3 < w.heap.size := by omega
 have n1 : B + 1 < w.heap.size := by omega
 have n0 : B < w.heap.size := by omega
 have x0_ : w.cell? ⟨B, 2, none⟩ = some (.slice A0 l.length c0) := by simp [World.cell?, h.x]
 have c1_ : w.cell? ⟨B + 1, 0, none⟩ = some (.slice (some ad) P.length c1) := by simp [World.cell?, h.p]
 have c4_ : w.cell? ⟨B + 4, 0, none⟩ = some (.int .i64 i) := by simp [World.cell?, h.a]
 have c5_ : w.cell? ⟨B + 5, 0, none⟩ = some (pieceV B) := by simp [World.cell?, h.f]
 have c30_ : w.cell? ⟨B + 3, 0, none⟩ = some (.int .i64 s) := by simp [World.cell?, h.s]
 have c31_ : w.cell? ⟨B + 3, 1, none⟩ = some (.int .i64 ar) := by simp [World.cell?, h.s]
 have f4_ : w.frozen? ⟨B + 4, 0, none⟩ = false := by simp [World.frozen?, h.a]
 have f30_ : w.frozen? ⟨B + 3, 0, none⟩ = false := by simp [World.frozen?, h.s]
 have f31_ : w.frozen? ⟨B + 3, 1, none⟩ = false := by simp [World.frozen?, h.s]
 have i0 : (0 : Int) ≤ (i : Int) := by omega
 have i1 : (i : Int) < (P.length : Int) := by omega
 have ne : ((i : Int) == (P.length : Int)) = false := beq_eq_false_iff_ne.2 (by omega)
 have hP1 : (P.length : Int) ≤ 8192 := by omega
 have hl1 : (l.length : Int) ≤ 16 := by omega
 have HS := hid h
 clear h hr hrb h0 h1
 go_enter Tryz.func94, Tryz.ntmps94
 go_wp2_with (fail)
 go_ret
 exact ⟨rfl, HS.out.step _, RdKeep.step hlt _ _⟩
set_option maxHeartbeats 8000000 in
set_option maxRecDepth 100000 in
theorem piece_make (W0 : World) (B W H : Nat) (A0 : Option Addr) (c0 : Nat) (l : List S76) (A1 : Option Addr) (c1 : Nat) (P : List S34) (hP : P.length ≤ 8192) (hl : l.length ≤ 16) (hr : ∀ w, Below B W0 w → Kd.C k34 w A1 P.length P) (hrb : ∀ w, Below B W0 w → Kd.C k76 w A0 l.length l) (x y i : Nat) (s ar : Int) (j : Nat) (hi : i < P.length) (hj : j < l.length)
  (h0 : (rd_T34 P (i : Int)).f0 = 1) (h1 : (rd_T34 P (i : Int)).f1 = (j : Int)) (hb : (rd_T76 l (j : Int)).f0 ≤ (x : Int) ∧ (rd_T76 l (j : Int)).f1 ≤ (y : Int)) :
  PieceSaid W0 B W H (.slice A0 l.length c0) (.slice A1 P.length c1) x y i s ar (i + 1) (wrap64 (s + (rd_T76 l (j : Int)).f2)) (wrap64 (ar + wrap64 ((rd_T76 l (j : Int)).f0 * (rd_T76 l (j : Int)).f1))) := by
 intro w hb0 h
 obtain ⟨ad, e0, hx0, hx1⟩ := at_T34 (hr w hb0) (i : Int) (by omega) (by omega)
 rw [Int.toNat_natCast] at hx0 hx1
 rw [h0] at hx0
 rw [h1] at hx1
 cases e0
 have hlt := h.lt
 have n4 : B + 4 < w.heap.size := by omega
 have n1 : B + 1 < w.heap.size := by omega
 have n0 : B < w.heap.size := by omega
 have x0_ : w.cell? ⟨B, 2, none⟩ = some (.slice A0 l.length c0) := by simp [World.cell?, h.x]
 have c1_ : w.cell? ⟨B + 1, 0, none⟩ = some (.slice (some ad) P.length c1) := by simp [World.cell?, h.p]
 have c4_ : w.cell? ⟨B + 4, 0, none⟩ = some (.int .i64 i) := by simp [World.cell?, h.a]
 have f4_ : w.frozen? ⟨B + 4, 0, none⟩ = false := by simp [World.frozen?, h.a]
 have i0 : (0 : Int) ≤ (i : Int) := by omega
 have i1 : (i : Int) < (P.length : Int) := by omega
 have ne : ((i : Int) == (P.length : Int)) = false := beq_eq_false_iff_ne.2 (by omega)
 have hP1 : (P.length : Int) ≤ 8192 := by omega
 have hl1 : (l.length : Int) ≤ 16 := by omega
 have HS := hid h
 have HB0 := Aside0.mk hb0
 clear h hb0
 obtain ⟨bl, hbl⟩ : ∃ bl, bl = rd_T76 l (j : Int) := ⟨_, rfl⟩
 rw [← hbl] at hb ⊢
 have j0 : (0 : Int) ≤ (j : Int) := by omega
 have j1 : (j : Int) < (l.length : Int) := by omega
 have d1 : decide (bl.f0 ≤ (x : Int)) = true := decide_eq_true hb.1
 have d2 : decide (bl.f1 ≤ (y : Int)) = true := decide_eq_true hb.2
 have s1 : IntKind.i64.wrap ((l.length : Int) - 1) = (l.length : Int) - 1 := IntWalk.i64_in _ (by omega)
 have HRB := hid hrb
 have HBL := hid hbl
 clear hr hrb h0 h1 hbl hb
 go_enter Tryz.func94, Tryz.ntmps94
 go_wp2_with (fail)
 obtain ⟨w1, hw1⟩ : ∃ w1, w1 = ((w.setCell ⟨B + 4, 0, none⟩ (.int .i64 ((i : Int) + 1))).alloc (.cells #[.int .i64 1, .int .i64 (j : Int)] 34)) := ⟨_, rfl⟩
 have HS1 : Hid (RdAt B W H (.slice A0 l.length c0) (.slice (some ad) P.length c1) (i + 1) s ar w1) := by show RdAt _ _ _ _ _ _ _ _ w1; rw [hw1]; exact HS.out.step _
 have HK1 : Hid (RdKeep B w w1) := by show RdKeep _ _ _; rw [hw1]; exact RdKeep.step hlt _ _
 have hsz : w1.heap.size = w.heap.size + 1 := by rw [hw1]; simp
 have g0 : w1.cell? ⟨w.heap.size, 0, none⟩ = some (.int .i64 1) := by rw [hw1, show w.heap.size = (w.setCell ⟨B + 4, 0, none⟩ (.int .i64 ((i : Int) + 1))).heap.size from by simp, World.cell?_alloc_new]; rfl
 have g1 : w1.cell? ⟨w.heap.size, 1, none⟩ = some (.int .i64 (j : Int)) := by rw [hw1, show w.heap.size = (w.setCell ⟨B + 4, 0, none⟩ (.int .i64 ((i : Int) + 1))).heap.size from by simp, World.cell?_alloc_new]; rfl
 rw [← hw1]
 clear hw1 x0_ c1_ c4_ f4_ n4 n1 n0 HS
 have hlt := HS1.out.lt
 have n5 : B + 5 < w1.heap.size := by omega
 have n4 : B + 4 < w1.heap.size := by omega
 have n3 : B + 3 < w1.heap.size := by omega
 have n1 : B + 1 < w1.heap.size := by omega
 have n0 : B < w1.heap.size := by omega
 have ng : w.heap.size < w1.heap.size := by omega
 have HSZ := hid hsz
 clear hsz
 obtain ⟨ad0, e0, _⟩ := at_T76 (HRB.out w1 (HB0.out.trans HK1.out.bel)) (j : Int) (by omega) (by omega)
 cases e0
 have x0_ : w1.cell? ⟨B, 2, none⟩ = some (.slice (some ad0) l.length c0) := by simp [World.cell?, HS1.out.x]
 refine (within_yes (a := (j : Int)) (by omega) (by omega) _).mono ?_
 rintro e w2 ⟨rfl, hd⟩
 have HS2 : Hid (RdAt B W H (.slice (some ad0) l.length c0) (.slice (some ad) P.length c1) (i + 1) s ar w2) := by obtain ⟨n, rfl⟩ := hd; exact HS1.out.more (pw_below_drewN (Below.refl _ _) n)
 have HK2 : Hid (RdKeep B w w2) := by obtain ⟨n, rfl⟩ := hd; exact HK1.out.trans (RdKeep.of (pw_below_drewN (Below.refl _ _) n) (by omega))
 have ng2 : w.heap.size < w2.heap.size := by obtain ⟨n, rfl⟩ := hd; exact ng
 have q0 : w2.cell? ⟨w.heap.size, 0, none⟩ = some (.int .i64 1) := by obtain ⟨n, rfl⟩ := hd; exact g0
 have q1 : w2.cell? ⟨w.heap.size, 1, none⟩ = some (.int .i64 (j : Int)) := by obtain ⟨n, rfl⟩ := hd; exact g1
 clear hd g0 g1 ng n0 n1 n3 n4 n5 HS1 HK1 HSZ
 have hlt2 := HS2.out.lt
 have n5 : B + 5 < w2.heap.size := by omega
 have n4 : B + 4 < w2.heap.size := by omega
 have n3 : B + 3 < w2.heap.size := by omega
 have n0 : B < w2.heap.size := by omega
 obtain ⟨ae, e1, hy0, hy1, hy2⟩ := at_T76 (HRB.out w2 (HB0.out.trans HK2.out.bel)) (j : Int) (by omega) (by omega)
 rw [Int.toNat_natCast] at hy0 hy1 hy2
 rw [← HBL.out] at hy0 hy1 hy2
 obtain rfl : ad0 = ae := by injection e1
 have x0_ : w2.cell? ⟨B, 2, none⟩ = some (.slice (some ad0) l.length c0) := by simp [World.cell?, HS2.out.x]
 have c30_ : w2.cell? ⟨B + 3, 0, none⟩ = some (.int .i64 s) := by simp [World.cell?, HS2.out.s]
 have c31_ : w2.cell? ⟨B + 3, 1, none⟩ = some (.int .i64 ar) := by simp [World.cell?, HS2.out.s]
 have f30_ : w2.frozen? ⟨B + 3, 0, none⟩ = false := by simp [World.frozen?, HS2.out.s]
 have f31_ : w2.frozen? ⟨B + 3, 1, none⟩ = false := by simp [World.frozen?, HS2.out.s]
 go_wp2_with (fail)
 go_ret
 refine ⟨rfl, (HS2.out.sum _ _).more (below_alloc (Below.refl _ _) _), HK2.out.trans ?_⟩
 refine (RdKeep.set (p := ⟨B + 3, 1, none⟩) (RdKeep.set (p := ⟨B + 3, 0, none⟩) (RdKeep.of (Below.refl w2.heap.size w2) (by omega)) (.inl rfl) (by omega) _) (.inl rfl) (by omega) _).trans (RdKeep.of (below_alloc (Below.refl _ _) _) (by simp; omega))
set_option maxHeartbeats 8000000 in
set_option maxRecDepth 100000 in
theorem piece_across (W0 : World) (B W H : Nat) (A0 : Option Addr) (c0 : Nat) (l : List S76) (A1 : Option Addr) (c1 : Nat) (P : List S34) (hP : P.length ≤ 8192) (hl : l.length ≤ 16) (hr : ∀ w, Below B W0 w → Kd.C k34 w A1 P.length P) (hrb : ∀ w, Below B W0 w → Kd.C k76 w A0 l.length l) (x y i : Nat) (s ar : Int) (a : Nat) (i1_ : Nat) (s1_ ar1_ : Int) (i2_ : Nat) (s2_ ar2_ : Int) (hi : i < P.length) (ha1 : 1 ≤ a) (hax : a < x) (hdim : x < 1000)
  (h0 : (rd_T34 P (i : Int)).f0 = 2) (h1 : (rd_T34 P (i : Int)).f1 = (a : Int))
  (ihp : PieceSaid W0 B W H (.slice A0 l.length c0) (.slice A1 P.length c1) a y (i + 1) s ar i1_ s1_ ar1_) (ihq : PieceSaid W0 B W H (.slice A0 l.length c0) (.slice A1 P.length c1) (x - a) y i1_ s1_ ar1_ i2_ s2_ ar2_) :
  PieceSaid W0 B W H (.slice A0 l.length c0) (.slice A1 P.length c1) x y i s ar i2_ s2_ ar2_ := by
 intro w hb0 h
 obtain ⟨ad, e0, hx0, hx1⟩ := at_T34 (hr w hb0) (i : Int) (by omega) (by omega)
 rw [Int.toNat_natCast] at hx0 hx1
 rw [h0] at hx0
 rw [h1] at hx1
 cases e0
 have hlt := h.lt
 have n4 : B + 4 < w.heap.size := by omega
 have n1 : B + 1 < w.heap.size := by omega
 have n0 : B < w.heap.size := by omega
 have x0_ : w.cell? ⟨B, 2, none⟩ = some (.slice A0 l.length c0) := by simp [World.cell?, h.x]
 have c1_ : w.cell? ⟨B + 1, 0, none⟩ = some (.slice (some ad) P.length c1) := by simp [World.cell?, h.p]
 have c4_ : w.cell? ⟨B + 4, 0, none⟩ = some (.int .i64 i) := by simp [World.cell?, h.a]
 have f4_ : w.frozen? ⟨B + 4, 0, none⟩ = false := by simp [World.frozen?, h.a]
 have i0 : (0 : Int) ≤ (i : Int) := by omega
 have i1 : (i : Int) < (P.length : Int) := by omega
 have ne : ((i : Int) == (P.length : Int)) = false := beq_eq_false_iff_ne.2 (by omega)
 have hP1 : (P.length : Int) ≤ 8192 := by omega
 have hl1 : (l.length : Int) ≤ 16 := by omega
 have HS := hid h
 have HB0 := Aside0.mk hb0
 clear h hb0
 have IHP := hid ihp
 have IHQ := hid ihq
 have s1 : IntKind.i64.wrap ((x : Int) - 1) = (x : Int) - 1 := IntWalk.i64_in _ (by omega)
 have s7 : IntKind.i64.wrap ((x : Int) - (a : Int)) = ((x - a : Nat) : Int) := by rw [IntWalk.i64_in _ (by omega)]; omega
 clear hr hrb h0 h1 ihp ihq
 go_enter Tryz.func94, Tryz.ntmps94
 go_wp2_with (fail)
 obtain ⟨w1, hw1⟩ : ∃ w1, w1 = ((w.setCell ⟨B + 4, 0, none⟩ (.int .i64 ((i : Int) + 1))).alloc (.cells #[.int .i64 2, .int .i64 (a : Int)] 34)) := ⟨_, rfl⟩
 have HS1 : Hid (RdAt B W H (.slice A0 l.length c0) (.slice (some ad) P.length c1) (i + 1) s ar w1) := by show RdAt _ _ _ _ _ _ _ _ w1; rw [hw1]; exact HS.out.step _
 have HK1 : Hid (RdKeep B w w1) := by show RdKeep _ _ _; rw [hw1]; exact RdKeep.step hlt _ _
 have hsz : w1.heap.size = w.heap.size + 1 := by rw [hw1]; simp
 have g0 : w1.cell? ⟨w.heap.size, 0, none⟩ = some (.int .i64 2) := by rw [hw1, show w.heap.size = (w.setCell ⟨B + 4, 0, none⟩ (.int .i64 ((i : Int) + 1))).heap.size from by simp, World.cell?_alloc_new]; rfl
 have g1 : w1.cell? ⟨w.heap.size, 1, none⟩ = some (.int .i64 (a : Int)) := by rw [hw1, show w.heap.size = (w.setCell ⟨B + 4, 0, none⟩ (.int .i64 ((i : Int) + 1))).heap.size from by simp, World.cell?_alloc_new]; rfl
 rw [← hw1]
 clear hw1 x0_ c1_ c4_ f4_ n4 n1 n0 HS
 have hlt := HS1.out.lt
 have n5 : B + 5 < w1.heap.size := by omega
 have n4 : B + 4 < w1.heap.size := by omega
 have n3 : B + 3 < w1.heap.size := by omega
 have n1 : B + 1 < w1.heap.size := by omega
 have n0 : B < w1.heap.size := by omega
 have ng : w.heap.size < w1.heap.size := by omega
 have HSZ := hid hsz
 clear hsz
 refine (within_yes (a := (a : Int)) (by omega) (by omega) _).mono ?_
 rintro e w2 ⟨rfl, hd⟩
 have HS2 : Hid (RdAt B W H (.slice A0 l.length c0) (.slice (some ad) P.length c1) (i + 1) s ar w2) := by obtain ⟨n, rfl⟩ := hd; exact HS1.out.more (pw_below_drewN (Below.refl _ _) n)
 have HK2 : Hid (RdKeep B w w2) := by obtain ⟨n, rfl⟩ := hd; exact HK1.out.trans (RdKeep.of (pw_below_drewN (Below.refl _ _) n) (by omega))
 have ng2 : w.heap.size < w2.heap.size := by obtain ⟨n, rfl⟩ := hd; exact ng
 have q0 : w2.cell? ⟨w.heap.size, 0, none⟩ = some (.int .i64 2) := by obtain ⟨n, rfl⟩ := hd; exact g0
 have q1 : w2.cell? ⟨w.heap.size, 1, none⟩ = some (.int .i64 (a : Int)) := by obtain ⟨n, rfl⟩ := hd; exact g1
 clear hd g0 g1 ng n0 n1 n3 n4 n5 HS1 HK1 HSZ
 have hlt2 := HS2.out.lt
 have n5 : B + 5 < w2.heap.size := by omega
 have n4 : B + 4 < w2.heap.size := by omega
 have n3 : B + 3 < w2.heap.size := by omega
 have n0 : B < w2.heap.size := by omega
 have c5_ : w2.cell? ⟨B + 5, 0, none⟩ = some (pieceV B) := by simp [World.cell?, HS2.out.f]
 unfold pieceV at c5_
 go_wp2_with (fail)
 refine (IHP.out w2 (HB0.out.trans HK2.out.bel) HS2.out).mono ?_
 rintro e w3 ⟨rfl, hS3, hK3⟩
 have HS3 := hid hS3
 have HK3 := hid hK3
 have p0 : w3.cell? ⟨w.heap.size, 0, none⟩ = some (.int .i64 2) := by rw [← q0]; unfold World.cell?; rw [hK3.blk w.heap.size ng2 (by omega) (by omega)]
 have p1 : w3.cell? ⟨w.heap.size, 1, none⟩ = some (.int .i64 (a : Int)) := by rw [← q1]; unfold World.cell?; rw [hK3.blk w.heap.size ng2 (by omega) (by omega)]
 have k5_ : w3.cell? ⟨B + 5, 0, none⟩ = some (pieceV B) := by simp [World.cell?, hS3.f]
 unfold pieceV at k5_
 clear hS3 hK3 q0 q1 c5_
 go_wp2_with (fail)
 refine (IHQ.out w3 ((HB0.out.trans HK2.out.bel).trans HK3.out.bel) HS3.out).mono ?_
 rintro e w4 ⟨rfl, hS4, hK4⟩
 have HS4 := hid hS4
 have HK4 := hid hK4
 clear hS4 hK4
 go_wp2_with (fail)
 go_ret
 exact ⟨rfl, HS4.out, (HK2.out.trans HK3.out).trans HK4.out⟩
set_option maxHeartbeats 8000000 in
set_option maxRecDepth 100000 in
theorem piece_along (W0 : World) (B W H : Nat) (A0 : Option Addr) (c0 : Nat) (l : List S76) (A1 : Option Addr) (c1 : Nat) (P : List S34) (hP : P.length ≤ 8192) (hl : l.length ≤ 16) (hr : ∀ w, Below B W0 w → Kd.C k34 w A1 P.length P) (hrb : ∀ w, Below B W0 w → Kd.C k76 w A0 l.length l) (x y i : Nat) (s ar : Int) (a : Nat) (i1_ : Nat) (s1_ ar1_ : Int) (i2_ : Nat) (s2_ ar2_ : Int) (hi : i < P.length) (ha1 : 1 ≤ a) (hax : a < y) (hdim : y < 1000)
  (h0 : (rd_T34 P (i : Int)).f0 = 3) (h1 : (rd_T34 P (i : Int)).f1 = (a : Int))
  (ihp : PieceSaid W0 B W H (.slice A0 l.length c0) (.slice A1 P.length c1) x a (i + 1) s ar i1_ s1_ ar1_) (ihq : PieceSaid W0 B W H (.slice A0 l.length c0) (.slice A1 P.length c1) x (y - a) i1_ s1_ ar1_ i2_ s2_ ar2_) :
  PieceSaid W0 B W H (.slice A0 l.length c0) (.slice A1 P.length c1) x y i s ar i2_ s2_ ar2_ := by
 intro w hb0 h
 obtain ⟨ad, e0, hx0, hx1⟩ := at_T34 (hr w hb0) (i : Int) (by omega) (by omega)
 rw [Int.toNat_natCast] at hx0 hx1
 rw [h0] at hx0
 rw [h1] at hx1
 cases e0
 have hlt := h.lt
 have n4 : B + 4 < w.heap.size := by omega
 have n1 : B + 1 < w.heap.size := by omega
 have n0 : B < w.heap.size := by omega
 have x0_ : w.cell? ⟨B, 2, none⟩ = some (.slice A0 l.length c0) := by simp [World.cell?, h.x]
 have c1_ : w.cell? ⟨B + 1, 0, none⟩ = some (.slice (some ad) P.length c1) := by simp [World.cell?, h.p]
 have c4_ : w.cell? ⟨B + 4, 0, none⟩ = some (.int .i64 i) := by simp [World.cell?, h.a]
 have f4_ : w.frozen? ⟨B + 4, 0, none⟩ = false := by simp [World.frozen?, h.a]
 have i0 : (0 : Int) ≤ (i : Int) := by omega
 have i1 : (i : Int) < (P.length : Int) := by omega
 have ne : ((i : Int) == (P.length : Int)) = false := beq_eq_false_iff_ne.2 (by omega)
 have hP1 : (P.length : Int) ≤ 8192 := by omega
 have hl1 : (l.length : Int) ≤ 16 := by omega
 have HS := hid h
 have HB0 := Aside0.mk hb0
 clear h hb0
 have IHP := hid ihp
 have IHQ := hid ihq
 have s1 : IntKind.i64.wrap ((y : Int) - 1) = (y : Int) - 1 := IntWalk.i64_in _ (by omega)
 have s7 : IntKind.i64.wrap ((y : Int) - (a : Int)) = ((y - a : Nat) : Int) := by rw [IntWalk.i64_in _ (by omega)]; omega
 clear hr hrb h0 h1 ihp ihq
 go_enter Tryz.func94, Tryz.ntmps94
 go_wp2_with (fail)
 obtain ⟨w1, hw1⟩ : ∃ w1, w1 = ((w.setCell ⟨B + 4, 0, none⟩ (.int .i64 ((i : Int) + 1))).alloc (.cells #[.int .i64 3, .int .i64 (a : Int)] 34)) := ⟨_, rfl⟩
 have HS1 : Hid (RdAt B W H (.slice A0 l.length c0) (.slice (some ad) P.length c1) (i + 1) s ar w1) := by show RdAt _ _ _ _ _ _ _ _ w1; rw [hw1]; exact HS.out.step _
 have HK1 : Hid (RdKeep B w w1) := by show RdKeep _ _ _; rw [hw1]; exact RdKeep.step hlt _ _
 have hsz : w1.heap.size = w.heap.size + 1 := by rw [hw1]; simp
 have g0 : w1.cell? ⟨w.heap.size, 0, none⟩ = some (.int .i64 3) := by rw [hw1, show w.heap.size = (w.setCell ⟨B + 4, 0, none⟩ (.int .i64 ((i : Int) + 1))).heap.size from by simp, World.cell?_alloc_new]; rfl
 have g1 : w1.cell? ⟨w.heap.size, 1, none⟩ = some (.int .i64 (a : Int)) := by rw [hw1, show w.heap.size = (w.setCell ⟨B + 4, 0, none⟩ (.int .i64 ((i : Int) + 1))).heap.size from by simp, World.cell?_alloc_new]; rfl
 rw [← hw1]
 clear hw1 x0_ c1_ c4_ f4_ n4 n1 n0 HS
 have hlt := HS1.out.lt
 have n5 : B + 5 < w1.heap.size := by omega
 have n4 : B + 4 < w1.heap.size := by omega
 have n3 : B + 3 < w1.heap.size := by omega
 have n1 : B + 1 < w1.heap.size := by omega
 have n0 : B < w1.heap.size := by omega
 have ng : w.heap.size < w1.heap.size := by omega
 have HSZ := hid hsz
 clear hsz
 refine (within_yes (a := (a : Int)) (by omega) (by omega) _).mono ?_
 rintro e w2 ⟨rfl, hd⟩
 have HS2 : Hid (RdAt B W H (.slice A0 l.length c0) (.slice (some ad) P.length c1) (i + 1) s ar w2) := by obtain ⟨n, rfl⟩ := hd; exact HS1.out.more (pw_below_drewN (Below.refl _ _) n)
 have HK2 : Hid (RdKeep B w w2) := by obtain ⟨n, rfl⟩ := hd; exact HK1.out.trans (RdKeep.of (pw_below_drewN (Below.refl _ _) n) (by omega))
 have ng2 : w.heap.size < w2.heap.size := by obtain ⟨n, rfl⟩ := hd; exact ng
 have q0 : w2.cell? ⟨w.heap.size, 0, none⟩ = some (.int .i64 3) := by obtain ⟨n, rfl⟩ := hd; exact g0
 have q1 : w2.cell? ⟨w.heap.size, 1, none⟩ = some (.int .i64 (a : Int)) := by obtain ⟨n, rfl⟩ := hd; exact g1
 clear hd g0 g1 ng n0 n1 n3 n4 n5 HS1 HK1 HSZ
 have hlt2 := HS2.out.lt
 have n5 : B + 5 < w2.heap.size := by omega
 have n4 : B + 4 < w2.heap.size := by omega
 have n3 : B + 3 < w2.heap.size := by omega
 have n0 : B < w2.heap.size := by omega
 have c5_ : w2.cell? ⟨B + 5, 0, none⟩ = some (pieceV B) := by simp [World.cell?, HS2.out.f]
 unfold pieceV at c5_
 go_wp2_with (fail)
 refine (IHP.out w2 (HB0.out.trans HK2.out.bel) HS2.out).mono ?_
 rintro e w3 ⟨rfl, hS3, hK3⟩
 have HS3 := hid hS3
 have HK3 := hid hK3
 have p0 : w3.cell? ⟨w.heap.size, 0, none⟩ = some (.int .i64 3) := by rw [← q0]; unfold World.cell?; rw [hK3.blk w.heap.size ng2 (by omega) (by omega)]
 have p1 : w3.cell? ⟨w.heap.size, 1, none⟩ = some (.int .i64 (a : Int)) := by rw [← q1]; unfold World.cell?; rw [hK3.blk w.heap.size ng2 (by omega) (by omega)]
 have k5_ : w3.cell? ⟨B + 5, 0, none⟩ = some (pieceV B) := by simp [World.cell?, hS3.f]
 unfold pieceV at k5_
 clear hS3 hK3 q0 q1 c5_
 go_wp2_with (fail)
 refine (IHQ.out w3 ((HB0.out.trans HK2.out.bel).trans HK3.out.bel) HS3.out).mono ?_
 rintro e w4 ⟨rfl, hS4, hK4⟩
 have HS4 := hid hS4
 have HK4 := hid hK4
 clear hS4 hK4
 go_wp2_with (fail)
 go_ret
 exact ⟨rfl, HS4.out, (HK2.out.trans HK3.out).trans HK4.out⟩
end Go.Proofs.YtiioklboaookiaaGreatDoor.Q
namespace Go.Proofs.YtiioklboaookiaaGreatDoor.Q
open Go.RowKit Go.Proofs.YtiioklboaookiaaGreatDoorW.PrintWords Go.Proofs.YtiioklboaookiaaGreatDoorW.PrintLast Go.Proofs.YtiioklboaookiaaGreatDoor.Hand Go.Proofs.YtiioklboaookiaaGreatDoorW.PrintMore
attribute [local go_sem] max2_int min2_int max_two min_two max_three min_three max_four min_four
set_option linter.unusedVariables false
set_option linter.unusedSimpArgs false
theorem piece_walk (W0 : World) (B W H : Nat) (A0 : Option Addr) (c0 : Nat) (l : List S76) (A1 : Option Addr) (c1 : Nat) (P : List S34) (hP : P.length ≤ 8192) (hl : l.length ≤ 16) (hr : ∀ w, Below B W0 w → Kd.C k34 w A1 P.length P) (hrb : ∀ w, Below B W0 w → Kd.C k76 w A0 l.length l)
  (k : Nat) : ∀ (x y i : Nat) (s ar : Int) (i' : Nat) (s' ar' : Int), x < 1000 → y < 1000 → readF l P k x y i s ar = some (i', s', ar') → PieceSaid W0 B W H (.slice A0 l.length c0) (.slice A1 P.length c1) x y i s ar i' s' ar' := by
 induction k with
 | zero => intro x y i s ar i' s' ar' _ _ h; exact absurd h (by simp [readF])
 | succ k ih =>
  intro x y i s ar i' s' ar' hx hy h
  unfold readF at h
  by_cases hi : i < P.length
  ·rw [if_pos hi] at h
   dsimp only at h
   by_cases h0 : (rd_T34 P (i : Int)).f0 = 0
   ·rw [if_pos h0] at h
    by_cases h1 : (rd_T34 P (i : Int)).f1 = 0
    ·rw [if_pos h1] at h
     cases h
     exact piece_waste W0 B W H A0 c0 l A1 c1 P hP hl hr hrb x y i s ar hi h0 h1
    ·rw [if_neg h1] at h; exact absurd h (by simp)
   ·rw [if_neg h0] at h
    by_cases h2 : (rd_T34 P (i : Int)).f0 = 1
    ·rw [if_pos h2] at h
     by_cases h1 : 0 ≤ (rd_T34 P (i : Int)).f1 ∧ (rd_T34 P (i : Int)).f1 < (l.length : Int)
     ·rw [if_pos h1] at h
      obtain ⟨j, hj⟩ := Int.eq_ofNat_of_zero_le h1.1
      rw [hj] at h h1
      by_cases hb : (rd_T76 l (j : Int)).f0 ≤ (x : Int) ∧ (rd_T76 l (j : Int)).f1 ≤ (y : Int)
      ·rw [if_pos hb] at h
       cases h
       exact piece_make W0 B W H A0 c0 l A1 c1 P hP hl hr hrb x y i s ar j hi (by omega) h2 hj hb
      ·rw [if_neg hb] at h; exact absurd h (by simp)
     ·rw [if_neg h1] at h; exact absurd h (by simp)
    ·rw [if_neg h2] at h
     by_cases h3 : (rd_T34 P (i : Int)).f0 = 2
     ·rw [if_pos h3] at h
      by_cases h1 : 1 ≤ (rd_T34 P (i : Int)).f1 ∧ (rd_T34 P (i : Int)).f1 < (x : Int)
      ·rw [if_pos h1] at h
       obtain ⟨⟨i1, s1, ar1⟩, hp, h⟩ := Option.bind_eq_some_iff.mp h
       obtain ⟨a, ha⟩ := Int.eq_ofNat_of_zero_le (show 0 ≤ (rd_T34 P (i : Int)).f1 by omega)
       rw [ha, Int.toNat_natCast] at hp h
       rw [ha] at h1
       exact piece_across W0 B W H A0 c0 l A1 c1 P hP hl hr hrb x y i s ar a i1 s1 ar1 i' s' ar' hi (by omega) (by omega) hx h3 ha (ih a y (i + 1) s ar i1 s1 ar1 (by omega) hy hp) (ih (x - a) y i1 s1 ar1 i' s' ar' (by omega) hy h)
      ·rw [if_neg h1] at h; exact absurd h (by simp)
     ·rw [if_neg h3] at h
      by_cases h4 : (rd_T34 P (i : Int)).f0 = 3
      ·rw [if_pos h4] at h
       by_cases h1 : 1 ≤ (rd_T34 P (i : Int)).f1 ∧ (rd_T34 P (i : Int)).f1 < (y : Int)
       ·rw [if_pos h1] at h
        obtain ⟨⟨i1, s1, ar1⟩, hp, h⟩ := Option.bind_eq_some_iff.mp h
        obtain ⟨a, ha⟩ := Int.eq_ofNat_of_zero_le (show 0 ≤ (rd_T34 P (i : Int)).f1 by omega)
        rw [ha, Int.toNat_natCast] at hp h
        rw [ha] at h1
        exact piece_along W0 B W H A0 c0 l A1 c1 P hP hl hr hrb x y i s ar a i1 s1 ar1 i' s' ar' hi (by omega) (by omega) hy h4 ha (ih x a (i + 1) s ar i1 s1 ar1 hx (by omega) hp) (ih x (y - a) i1 s1 ar1 i' s' ar' hx (by omega) h)
       ·rw [if_neg h1] at h; exact absurd h (by simp)
      ·rw [if_neg h4] at h; exact absurd h (by simp)
  ·rw [if_neg hi] at h; exact absurd h (by simp)
def rdWorld (w : World) (W H : Nat) (bl pl : Value) : World := (((((w.alloc (.cells #[.int .i64 W, .int .i64 H, bl] 78)).alloc (.cells #[pl] 27)).alloc (.cells #[.int .i64 0, .int .i64 0] 98)).alloc (.cells #[.int .i64 0, .int .i64 0] 98)).alloc (.cells #[.int .i64 0] 3)).alloc (.cells #[pieceV w.heap.size] 143)
theorem RdAt.start (w : World) (W H : Nat) (bl pl : Value) : RdAt w.heap.size W H bl pl 0 0 0 (rdWorld w W H bl pl) := by
 unfold rdWorld
 refine ⟨?_, ?_, ?_, ?_, ?_, ?_⟩
 ·exact blk_alloc (blk_alloc (blk_alloc (blk_alloc (blk_alloc (heap_new _ _ _ rfl) _) _) _) _) _
 ·exact blk_alloc (blk_alloc (blk_alloc (blk_alloc (heap_new _ _ _ (by simp)) _) _) _) _
 ·exact blk_alloc (blk_alloc (blk_alloc (heap_new _ _ _ (by simp)) _) _) _
 ·exact blk_alloc (blk_alloc (heap_new _ _ _ (by simp)) _) _
 ·exact blk_alloc (heap_new _ _ _ (by simp)) _
 ·exact heap_new _ _ _ (by simp)
theorem rdWorld_below (w : World) (W H : Nat) (bl pl : Value) : Below w.heap.size w (rdWorld w W H bl pl) := by
 unfold rdWorld
 repeat (first | exact Below.refl _ _ | refine below_alloc ?_ _)
set_option maxHeartbeats 8000000 in
set_option maxRecDepth 100000 in
theorem read_walk (k W H : Nat) (A0 : Option Addr) (c0 : Nat) (l : List S76) (A1 : Option Addr) (c1 : Nat) (P : List S34) (s ar : Int) (w : World) (hW : W < 49) (hH : H < 49) (hP : P.length ≤ 8192) (hl : l.length ≤ 16) (hr : Kd.C k34 w A1 P.length P) (hrb : Kd.C k76 w A0 l.length l) (h : readF l P k W H 0 0 0 = some (P.length, s, ar)) :
  Calls Tryz.prog 62 #[.agg #[.int .i64 W, .int .i64 H, .slice A0 l.length c0], .slice A1 P.length c1] w fun e w' => e = .returned (.tuple #[.agg #[.int .i64 s, .int .i64 ar], .bool true]) ∧ Below w.heap.size w w' := by
 have HS := piece_walk w w.heap.size W H A0 c0 l A1 c1 P hP hl (fun w' hb => Kd.C_below hr hb) (fun w' hb => Kd.C_below hrb hb) k W H 0 0 0 P.length s ar (by omega) (by omega) h
 have d1 : decide ((P.length : Int) ≤ 8192) = true := decide_eq_true (by omega)
 have HPS := hid HS
 clear HS h hr hrb
 go_enter Tryz.func62, Tryz.ntmps62
 go_wp2_with (fail)
 refine (HPS.out (rdWorld w W H (.slice A0 l.length c0) (.slice A1 P.length c1)) (rdWorld_below _ _ _ _ _) (RdAt.start _ _ _ _ _)).mono ?_
 rintro e w1 ⟨rfl, hS, hK⟩
 have HB1 := Aside0.mk ((rdWorld_below w W H (.slice A0 l.length c0) (.slice A1 P.length c1)).trans hK.bel)
 have c1_ : w1.cell? ⟨w.heap.size + 1, 0, none⟩ = some (.slice A1 P.length c1) := by simp [World.cell?, hS.p]
 have c4_ : w1.cell? ⟨w.heap.size + 1 + 1 + 1 + 1, 0, none⟩ = some (.int .i64 P.length) := by
  show w1.cell? ⟨w.heap.size + 4, 0, none⟩ = _
  simp [World.cell?, hS.a]
 have c3_ : w1.cell? ⟨w.heap.size + 1 + 1 + 1, 0, none⟩ = some (.int .i64 s) := by
  show w1.cell? ⟨w.heap.size + 3, 0, none⟩ = _
  simp [World.cell?, hS.s]
 have c3b_ : w1.cell? ⟨w.heap.size + 1 + 1 + 1, 1, none⟩ = some (.int .i64 ar) := by
  show w1.cell? ⟨w.heap.size + 3, 1, none⟩ = _
  simp [World.cell?, hS.s]
 have c2_ : w1.cell? ⟨w.heap.size + 1 + 1, 0, none⟩ = some (.int .i64 0) := by
  show w1.cell? ⟨w.heap.size + 2, 0, none⟩ = _
  simp [World.cell?, hS.r]
 have c2b_ : w1.cell? ⟨w.heap.size + 1 + 1, 1, none⟩ = some (.int .i64 0) := by
  show w1.cell? ⟨w.heap.size + 2, 1, none⟩ = _
  simp [World.cell?, hS.r]
 have f2_ : ∀ j, w1.frozen? ⟨w.heap.size + 1 + 1, j, none⟩ = false := fun j => by
  show w1.frozen? ⟨w.heap.size + 2, j, none⟩ = _
  simp [World.frozen?, hS.r]
 have HR2 := hid (show w1.heap[w.heap.size + 1 + 1]? = some (.cells #[.int .i64 0, .int .i64 0] 98 (0, 0)) from hS.r)
 clear hS hK
 go_wp2_with (fail)
 refine bodyPost_ret (results_ct rfl _ _ (w.heap.size + 1 + 1) 98 #[.int .i64 s, .int .i64 ar] (0, 0) _ rfl ?_ Tryz.underlying98 rfl (by kernel_rfl)) rfl ?_
 ·refine blk_put (cs := #[.int .i64 s, .int .i64 0]) ?_ 1 _ rfl
  exact blk_put (cs := #[.int .i64 0, .int .i64 0]) HR2.out 0 _ rfl
 ·exact ⟨rfl, Below.setCell (p := ⟨w.heap.size + 1 + 1, 1, none⟩) (Below.setCell (p := ⟨w.heap.size + 1 + 1, 0, none⟩) HB1.out (by show w.heap.size ≤ w.heap.size + 1 + 1; omega) _) (by show w.heap.size ≤ w.heap.size + 1 + 1; omega) _⟩
set_option maxHeartbeats 8000000 in
set_option maxRecDepth 100000 in
theorem made_walk (k W H : Nat) (A0 : Option Addr) (c0 : Nat) (l : List S76) (A1 : Option Addr) (c1 : Nat) (P : List S34) (s ar : Int) (w : World) (hW0 : 1 ≤ W) (hW : W < 49) (hH0 : 1 ≤ H) (hH : H < 49) (hP : P.length ≤ 8192) (hl : l.length ≤ 16) (hr : Kd.C k34 w A1 P.length P) (hrb : Kd.C k76 w A0 l.length l) (hv : ∀ x, x ∈ l → blankOk x = true) (h : readF l P k W H 0 0 0 = some (P.length, s, ar)) :
  Calls Tryz.prog 29 #[.int .i64 W, .int .i64 H, .slice A0 l.length c0, .slice A1 P.length c1] w fun e w' => e = .returned (.tuple #[.agg #[.int .i64 s, .int .i64 ar], .int .i64 0]) ∧ Below w.heap.size w w' := by
 have HR := Aside0.mk hr
 have HRB := Aside0.mk hrb
 have HV := hid hv
 have HRF := hid h
 clear hr hrb hv h
 go_enter Tryz.func29, Tryz.ntmps29
 go_wp2_with (fail)
 refine (newTask_walk W H A0 c0 l _ hW0 hW hH0 hH hl (Kd.C_below HRB.out (below_alloc (Below.refl _ _) _)) HV.out).mono ?_
 rintro e w1 ⟨rfl, hB⟩
 have HB1 : Aside0 (Below w.heap.size w w1) := ⟨(below_alloc (Below.refl _ _) _).trans (hB.mono (by simp))⟩
 have hlt1 : w.heap.size < w1.heap.size := by have := hB.size; simp at this; omega
 have HC1 := hid (show w1.heap[w.heap.size]? = some (.cells #[.int .i64 0, .int .i64 0] 98 (0, 0)) from (hB.block _ (by simp)).trans (blk_new _ _))
 clear hB
 go_wp2_with (fail)
 refine (read_walk k W H A0 c0 l A1 c1 P s ar _ hW hH hP hl (Kd.C_below HR.out (HB1.out.trans (below_alloc (Below.refl _ _) _ |>.mono (Nat.le_of_lt hlt1)))) (Kd.C_below HRB.out (HB1.out.trans (below_alloc (Below.refl _ _) _ |>.mono (Nat.le_of_lt hlt1)))) HRF.out).mono ?_
 rintro e w2 ⟨rfl, hB⟩
 have HB2 : Aside0 (Below w.heap.size w w2) := ⟨(HB1.out.trans (below_alloc (Below.refl _ _) _ |>.mono (Nat.le_of_lt hlt1))).trans (hB.mono (by simp; omega))⟩
 have hlt2 : w.heap.size < w2.heap.size := by have := hB.size; simp at this; omega
 have HC2 := hid (show w2.heap[w.heap.size]? = some (.cells #[.int .i64 0, .int .i64 0] 98 (0, 0)) from (hB.block _ (by simp; omega)).trans (blk_alloc HC1.out _))
 have q0 : w2.cell? ⟨w.heap.size, 0, none⟩ = some (.int .i64 0) := by simp [World.cell?, HC2.out]
 have q1 : w2.cell? ⟨w.heap.size, 1, none⟩ = some (.int .i64 0) := by simp [World.cell?, HC2.out]
 have r0 : ∀ j, w2.frozen? ⟨w.heap.size, j, none⟩ = false := fun j => by simp [World.frozen?, HC2.out]
 clear hB hlt1
 go_wp2_with (fail)
 refine bodyPost_ret (results_ct rfl _ _ w.heap.size 98 #[.int .i64 s, .int .i64 ar] (0, 0) _ rfl ?_ Tryz.underlying98 rfl (by kernel_rfl)) rfl ?_
 ·exact blk_alloc (blk_put (cs := #[.int .i64 s, .int .i64 0]) (blk_put (cs := #[.int .i64 0, .int .i64 0]) HC2.out 0 _ rfl) 1 _ rfl) _
 ·exact ⟨rfl, below_alloc (Below.setCell (p := ⟨w.heap.size, 1, none⟩) (Below.setCell (p := ⟨w.heap.size, 0, none⟩) HB2.out (Nat.le_refl _) _) (Nat.le_refl _) _) _⟩
set_option maxHeartbeats 8000000 in
set_option maxRecDepth 100000 in
theorem Worth_walk (k W H : Nat) (A0 : Option Addr) (c0 : Nat) (l : List S76) (A1 : Option Addr) (c1 : Nat) (P : List S34) (s ar : Int) (w : World) (hW0 : 1 ≤ W) (hW : W < 49) (hH0 : 1 ≤ H) (hH : H < 49) (hP : P.length ≤ 8192) (hl : l.length ≤ 16) (hr : Kd.C k34 w A1 P.length P) (hrb : Kd.C k76 w A0 l.length l) (hv : ∀ x, x ∈ l → blankOk x = true) (h : readF l P k W H 0 0 0 = some (P.length, s, ar)) :
  Calls Tryz.prog 11 #[.int .i64 W, .int .i64 H, .slice A0 l.length c0, .slice A1 P.length c1] w fun e w' => e = .returned (.tuple #[.int .i64 s, .int .i64 0]) ∧ Below w.heap.size w w' := by
 have HM := hid (made_walk k W H A0 c0 l A1 c1 P s ar w hW0 hW hH0 hH hP hl hr hrb hv h)
 clear hr hrb hv h
 go_enter Tryz.func11, Tryz.ntmps11
 go_wp2_with (fail)
 refine HM.out.mono ?_
 rintro e w1 ⟨rfl, hB⟩
 have HB1 := Aside0.mk hB
 clear hB
 go_wp2_with (fail)
 go_ret2
 exact ⟨rfl, below_alloc HB1.out _⟩
end Go.Proofs.YtiioklboaookiaaGreatDoor.Q
namespace Go.Proofs.YtiioklboaookiaaGreatDoor.Q
open Go.RowKit Go.Proofs.YtiioklboaookiaaGreatDoorW.PrintWords Go.Proofs.YtiioklboaookiaaGreatDoorW.PrintLast Go.Proofs.YtiioklboaookiaaGreatDoor.Hand Go.Proofs.YtiioklboaookiaaGreatDoorW.PrintMore
attribute [local go_sem] max2_int min2_int max_two min_two max_three min_three max_four min_four
set_option linter.unusedVariables false
set_option linter.unusedSimpArgs false
theorem laidOutN : laidOutB Tryz.prog = true := by kernel_rfl
theorem arcRow : (218 : TypeId) < Tryz.prog.types.size := of_decide_eq_true (by kernel_rfl)
theorem arcWide : (match Tryz.prog.underlying 218 with | some (.array _ _) | some (.struct _) => true | _ => false) = true := by rw [Tryz.underlying218]
set_option maxRecDepth 100000 in
theorem arcLaw : WideMaps.KeyLaw Tryz.prog 218 := deep_law_laid laidOutN (m := 2) (by omega) arcRow (by kernel_rfl) arcWide
theorem arcKeyed : Maps.Keyed Tryz.prog 218 := Maps.Keyed.of_law arcLaw
def arcV (u v : Nat) : Value := .agg #[.int .i64 (u : Int), .int .i64 (v : Int)]
theorem wfN {x : Int} (h0 : -9223372036854775808 ≤ x) (h1 : x ≤ 9223372036854775807) : (Lit.int .i64 x).wf = true := by
 have : (Lit.int .i64 x).wf = true ↔ -9223372036854775808 ≤ x ∧ x ≤ 9223372036854775807 := by simp [Lit.wf, IntKind.min, IntKind.max, IntKind.signed, IntKind.bits]
 exact this.2 ⟨h0, h1⟩
theorem cellsInt : Tryz.prog.cellsOf 3 = 1 := by kernel_rfl
theorem cellsArc : Tryz.prog.cellsOf 218 = 2 := by kernel_rfl
theorem keyArc (u v : Nat) (hu : u < 100000) (hv : v < 100000) : ∃ l, keyOf Tryz.prog 218 (arcV u v) = some l := by
 have hk : Tryz.prog.keyType 218 = true := by kernel_rfl
 have hf : (arcV u v).formed Tryz.prog 218 = true := by simp [arcV, Value.formed, Tryz.underlying218, cellsArc]
 obtain ⟨m, hm⟩ : ∃ m, Tryz.prog.types.size + 1 = m + 2 := ⟨Tryz.prog.types.size - 1, by have h0 : 0 < Tryz.prog.types.size := Nat.lt_of_le_of_lt (Nat.zero_le _) arcRow; omega⟩
 have wu : (Lit.int .i64 (u : Int)).wf = true := wfN (by omega) (by omega)
 have wv : (Lit.int .i64 (v : Int)).wf = true := wfN (by omega) (by omega)
 unfold keyOf
 rw [Tryz.underlying218]
 dsimp only
 rw [hk, hf, hm]
 simp [arcV, Program.keyLits, Tryz.underlying218, Tryz.underlying3, cellsArc, cellsInt, wu, wv, Value.cells]
noncomputable def arcL (u v : Nat) : Lit := if h : u < 100000 ∧ v < 100000 then Classical.choose (keyArc u v h.1 h.2) else .nil
theorem arcKey {u v : Nat} (hu : u < 100000) (hv : v < 100000) : keyOf Tryz.prog 218 (arcV u v) = some (arcL u v) := by
 unfold arcL; rw [dif_pos ⟨hu, hv⟩]; exact Classical.choose_spec (keyArc u v hu hv)
theorem arcL_ne {u v x y : Nat} (hu : u < 100000) (hv : v < 100000) (hx : x < 100000) (hy : y < 100000) (h : ¬ (u = x ∧ v = y)) : arcL u v ≠ arcL x y := fun e => by
 have h1 := arcKey hu hv
 rw [e] at h1
 have h2 := arcKeyed.inj h1 (arcKey hx hy)
 unfold arcV at h2
 injection h2 with h2
 injection h2 with h2
 injection h2 with a1 h2
 injection h2 with a2 _
 injection a1 with _ a1
 injection a2 with _ a2
 exact h ⟨by omega, by omega⟩
def upd (M : Nat → Nat → Int) (u v : Nat) (x : Int) : Nat → Nat → Int := fun i j => if i = u ∧ j = v then x else M i j
def RoomAt (b n : Nat) (M : Nat → Nat → Int) (w : World) : Prop := ∃ D : DataW Unit, w.ownsMap Tryz.prog 218 (plainElem Tryz.prog 3) b n D ∧ Maps.IsMap D ∧
 ∀ u v, u < 100000 → v < 100000 → D.atKey (arcL u v) (.lit (.int .i64 0)) = .lit (.int .i64 (M u v))
theorem infoRowN : (Tryz.prog.info? 43).map (fun i => (i.zero, i.size, i.bytes)) = some (some (.slice none 0 0), 1, 24) := by kernel_rfl
theorem infoIntN : (Tryz.prog.info? 3).map (fun i => (i.zero, i.size, i.bytes)) = some (some (.int .i64 0), 1, 8) := by kernel_rfl
theorem zeroInt (w : World) : (zeroValue 3).run Tryz.prog w = .ok (.int .i64 0) w := by kernel_rfl
theorem RoomAt.lt {b n : Nat} {M : Nat → Nat → Int} {w : World} (h : RoomAt b n M w) : b < w.heap.size := by obtain ⟨D, h1, _⟩ := h; exact h1.lt
theorem RoomAt.step {b n : Nat} {M : Nat → Nat → Int} {w w1 : World} (h : RoomAt b n M w) (he : w1.heap[b]? = w.heap[b]?) : RoomAt b n M w1 := by
 obtain ⟨D, ⟨es, clock, hb, r⟩, h2⟩ := h
 exact ⟨D, ⟨es, clock, he.trans hb, r⟩, h2⟩
theorem RoomAt.below {b n : Nat} {M : Nat → Nat → Int} {w w1 : World} (h : RoomAt b n M w) (hb : Below w.heap.size w w1) : RoomAt b n M w1 := h.step (hb.block b h.lt)
theorem RoomAt.start (w : World) : RoomAt w.heap.size 0 (fun _ _ => 0) (w.alloc (.map #[] 0)) := ⟨.map [], World.ownsMap_made _ _ _ _, Maps.isMap_empty, fun _ _ _ _ => rfl⟩
set_option maxRecDepth 100000 in
theorem RoomAt.look {b n : Nat} {M : Nat → Nat → Int} {w : World} (h : RoomAt b n M w) {u v : Nat} (hu : u < 100000) (hv : v < 100000) : (Instr.lookup 235 (.map (some b)) (arcV u v) false).run Tryz.prog w = .ok (.int .i64 (M u v)) w := by
 obtain ⟨D, h1, h2, h3⟩ := h
 obtain ⟨c, hrun, hat, _⟩ := h1.lookup_int arcKeyed Tryz.underlying235 Tryz.underlying3 (zeroInt w) (arcKey hu hv)
 rw [h3 u v hu hv] at hat
 injection hat with hat
 injection hat with _ hat
 rw [hrun, hat]
theorem RoomAt.upd_ {b n : Nat} {M : Nat → Nat → Int} {w' : World} {D : DataW Unit} (h2 : Maps.IsMap D) (h3 : ∀ u v, u < 100000 → v < 100000 → D.atKey (arcL u v) (.lit (.int .i64 0)) = .lit (.int .i64 (M u v))) {u v : Nat} (hu : u < 100000) (hv : v < 100000) (x : Int)
  (h1 : w'.ownsMap Tryz.prog 218 (plainElem Tryz.prog 3) b n (D.put (arcL u v) (.lit (.int .i64 x)))) : RoomAt b n (upd M u v x) w' := by
 refine ⟨_, h1, h2.put _ _, fun i j hi hj => ?_⟩
 unfold upd
 by_cases e : i = u ∧ j = v
 ·obtain ⟨rfl, rfl⟩ := e
  rw [if_pos ⟨rfl, rfl⟩, Maps.atKey_put_same h2 (arcKeyed.key (arcKey hi hj))]
 ·rw [if_neg e, Maps.atKey_put_other (arcL_ne hi hj hu hv e), h3 i j hi hj]
theorem RoomAt.put {b n : Nat} {M : Nat → Nat → Int} {w : World} (h : RoomAt b n M w) (hn : n < maxLen) {u v : Nat} (hu : u < 100000) (hv : v < 100000) {x : Int} (hx : (Lit.int .i64 x).wf = true) :
  ∃ w', (Instr.mapUpdate 235 (.map (some b)) (arcV u v) (.int .i64 x)).run Tryz.prog w = .ok () w' ∧ RoomAt b (n + 1) (upd M u v x) w' ∧ w.grownBy w' (some b) := by
 obtain ⟨D, h1, h2, h3⟩ := h
 obtain ⟨w', hrun, ho, hg⟩ := h1.update arcKeyed Tryz.underlying235 hn (arcKey hu hv) (plainElem_int Tryz.underlying3 hx)
 exact ⟨w', hrun, RoomAt.upd_ h2 h3 hu hv x ho, hg⟩
theorem RoomAt.entry {b n : Nat} {M : Nat → Nat → Int} {w : World} (h : RoomAt b n M w) (hn : n < maxLen) {u v : Nat} (hu : u < 100000) (hv : v < 100000) {x : Int} (hx : (Lit.int .i64 x).wf = true) :
  ∃ v0 st w1 w2, (Instr.mapEntry 235 (.map (some b)) (arcV u v)).run Tryz.prog w = .ok (.tuple #[v0, goInt st]) w1 ∧ (Instr.entryStore 235 (.map (some b)) (goInt st) (.int .i64 x)).run Tryz.prog w1 = .ok () w2 ∧
   RoomAt b (n + 1) (upd M u v x) w2 ∧ w.grownBy w2 (some b) ∧ w1.heap.size = w.heap.size ∧ w2.heap.size = w.heap.size := by
 obtain ⟨D, h1, h2, h3⟩ := h
 have h1' := h1
 obtain ⟨es, clock, hb, F, hs, hD⟩ := h1
 obtain ⟨v0, st, es1, clock1, hE, _, hS⟩ := WideElems.entry_then_store arcLaw Tryz.underlying235 zeroInt hb F (arcKey hu hv)
 obtain ⟨es', clock', hst, hup⟩ := hS (ChangeMaps.setBlock w b (.map es1 clock1)) (.int .i64 x) (ChangeMaps.heap_setBlock_same hb _)
 obtain ⟨w', hrun, ho, hg⟩ := h1'.update arcKeyed Tryz.underlying235 hn (arcKey hu hv) (plainElem_int Tryz.underlying3 hx)
 rw [hrun] at hup
 injection hup with _ hup
 have e2 : ChangeMaps.setBlock (ChangeMaps.setBlock w b (.map es1 clock1)) b (.map es' clock') = w' := by
  rw [hup]
  unfold ChangeMaps.setBlock
  simp
 rw [e2] at hst
 refine ⟨v0, st, _, _, hE, hst, RoomAt.upd_ h2 h3 hu hv x ho, hg, by simp [ChangeMaps.setBlock], by rw [hup]; simp [ChangeMaps.setBlock]⟩
theorem RoomAt.del {b n : Nat} {M : Nat → Nat → Int} {w : World} (h : RoomAt b n M w) {u v : Nat} (hu : u < 100000) (hv : v < 100000) (ty : TypeId) :
  ∃ w', (Builtin.delete_ #[235, 218] ty #[.map (some b), arcV u v]).run Tryz.prog w = .ok (.tuple #[]) w' ∧ RoomAt b n (upd M u v 0) w' ∧ w.grownBy w' (some b) := by
 obtain ⟨D, h1, h2, h3⟩ := h
 obtain ⟨w', hrun, ho, hg⟩ := h1.drop arcKeyed Tryz.underlying235 (arcKey hu hv) ty
 refine ⟨w', hrun, ⟨_, ho, h2.del _, fun i j hi hj => ?_⟩, ?_⟩
 ·unfold upd
  by_cases e : i = u ∧ j = v
  ·obtain ⟨rfl, rfl⟩ := e
   rw [if_pos ⟨rfl, rfl⟩, Maps.atKey_del_same]
  ·rw [if_neg e, Maps.atKey_del_other (arcL_ne hi hj hu hv e), h3 i j hi hj]
 ·exact hg.grown
end Go.Proofs.YtiioklboaookiaaGreatDoor.Q
namespace Go.Proofs.YtiioklboaookiaaGreatDoor.Q
open Go.RowKit Go.Proofs.YtiioklboaookiaaGreatDoorW.PrintWords Go.Proofs.YtiioklboaookiaaGreatDoorW.PrintLast Go.Proofs.YtiioklboaookiaaGreatDoor.Hand Go.Proofs.YtiioklboaookiaaGreatDoorW.PrintMore
attribute [local go_sem] max2_int min2_int max_two min_two max_three min_three max_four min_four
set_option linter.unusedVariables false
set_option linter.unusedSimpArgs false
def nl (L : List Nat) : List Int := L.map fun (i : Nat) => (i : Int)
theorem nl_length (L : List Nat) : (nl L).length = L.length := by simp [nl]
theorem nl_snoc (L : List Nat) (i : Nat) : nl L ++ [(i : Int)] = nl (L ++ [i]) := by simp [nl]
theorem nl_rd (L : List Nat) (i : Nat) (h : i < L.length) : rd (nl L) (i : Int) = (L[i] : Int) := by
 unfold rd nl; rw [Int.toNat_natCast, List.getD_eq_getElem?_getD, List.getElem?_map, List.getElem?_eq_getElem h]; rfl
structure NetAt (nb mb xb B N n : Nat) (M : Nat → Nat → Int) (adj : Nat → List Nat) (vs : Nat → Value) (w : World) : Prop where
 net : w.heap[nb]? = some (.cells #[.map (some mb), .slice (some ⟨xb, 0, none⟩) N N] 237 (0, 0))
 room : RoomAt mb n M w
 row : ∃ C : Array Value, w.heap[xb]? = some (.cells C 43 (0, 0)) ∧ ∀ i, i < N → C[i]? = some (vs i)
 rows : ∀ i, i < N → Kd.R (Kd.int .i64) 3 w B (fun _ => True) (vs i) (nl (adj i))
 apart : ∀ i j, i < N → j < N → i ≠ j → ∀ k, (vs i).ownBlock = some k → (vs j).ownBlock ≠ some k
 bn : B ≤ nb
 bm : B ≤ mb
 bx : B ≤ xb
structure NetKeep (B : Nat) (w w' : World) : Prop where
 bel : Below B w w'
 blk : ∀ (k : Nat) (c : Array Value) (t : TypeId) (fr : Nat × Nat), w.heap[k]? = some (Obj.cells c t fr) → t ≠ 3 → t ≠ 43 → w'.heap[k]? = some (Obj.cells c t fr)
theorem NetKeep.refl (B : Nat) (w : World) : NetKeep B w w := ⟨Below.refl _ _, fun _ _ _ _ h _ _ => h⟩
theorem NetKeep.trans {B : Nat} {a b c : World} (h : NetKeep B a b) (k : NetKeep B b c) : NetKeep B a c := ⟨h.bel.trans k.bel, fun i cs t fr hi h1 h2 => k.blk i cs t fr (h.blk i cs t fr hi h1 h2) h1 h2⟩
theorem NetKeep.of {B : Nat} {w w' : World} (h : Below w.heap.size w w') (hB : B ≤ w.heap.size) : NetKeep B w w' := ⟨h.mono hB, fun k c t fr hk _ _ => (h.block k (lt_of_some hk)).trans hk⟩
theorem NetAt.below {nb mb xb B N n : Nat} {M : Nat → Nat → Int} {adj : Nat → List Nat} {vs : Nat → Value} {w w1 : World} (h : NetAt nb mb xb B N n M adj vs w) (hb : Below w.heap.size w w1) : NetAt nb mb xb B N n M adj vs w1 where
 net := (hb.block _ (lt_of_some h.net)).trans h.net
 room := h.room.below hb
 row := by obtain ⟨C, h1, h2⟩ := h.row; exact ⟨C, (hb.block _ (lt_of_some h1)).trans h1, h2⟩
 rows := fun i hi => Kd.R_below (h.rows i hi) hb
 apart := h.apart
 bn := h.bn
 bm := h.bm
 bx := h.bx
theorem NetAt.lt {nb mb xb B N n : Nat} {M : Nat → Nat → Int} {adj : Nat → List Nat} {vs : Nat → Value} {w : World} (h : NetAt nb mb xb B N n M adj vs w) : nb < w.heap.size ∧ mb < w.heap.size ∧ xb < w.heap.size := by
 obtain ⟨C, h1, _⟩ := h.row
 exact ⟨lt_of_some h.net, h.room.lt, lt_of_some h1⟩
set_option maxHeartbeats 8000000 in
set_option maxRecDepth 100000 in
theorem newNetwork_walk (N : Nat) (w : World) (hN : N ≤ 1000) :
  Calls Tryz.prog 100 #[.int .i64 N] w fun e w' => ∃ nb mb xb, e = .returned (.pointer (some ⟨nb, 0, none⟩)) ∧ NetAt nb mb xb w.heap.size N 0 (fun _ _ => 0) (fun _ => []) (fun _ => .slice none 0 0) w' ∧ Below w.heap.size w w' := by
 have hmm := @run_makeMap Tryz.prog
 have hmk := fun w => run_make_row' (P := Tryz.prog) 28 43 (.slice none 0 0) 24 Tryz.underlying28 infoRowN rfl .i64 .i64 N (by omega) (by omega) w
 go_enter Tryz.func100, Tryz.ntmps100
 go_wp2_with (fail)
 go_ret
 refine ⟨w.heap.size + 2, w.heap.size, w.heap.size + 1, rfl, ⟨?_, ?_, ?_, ?_, ?_, ?_, ?_, ?_⟩, ?_⟩
 ·exact heap_new _ _ _ (by simp)
 ·exact ((RoomAt.start w).below (below_alloc (Below.refl _ _) _)).below (below_alloc (Below.refl _ _) _)
 ·refine ⟨_, blk_alloc (heap_new _ _ _ (by simp)) _, fun i hi => ?_⟩
  rw [Array.getElem?_eq_getElem (by rw [size_madeCells]; simpa using hi)]
  simp [madeCells, Nat.mod_one]
 ·exact fun i hi => Kd.R_nil _ _ _ _ _
 ·intro i j _ _ _ k hk; simp [Value.ownBlock] at hk
 ·omega
 ·omega
 ·omega
 ·repeat (first | exact Below.refl _ _ | refine below_alloc ?_ _)
def push1 (adj : Nat → List Nat) (i x : Nat) : Nat → List Nat := fun j => if j = i then adj i ++ [x] else adj j
def setV (vs : Nat → Value) (i : Nat) (v : Value) : Nat → Value := fun j => if j = i then v else vs j
theorem NetAt.grow {nb mb xb B N n : Nat} {M : Nat → Nat → Int} {adj : Nat → List Nat} {vs : Nat → Value} {W w2 : World} (h : NetAt nb mb xb B N n M adj vs W) (i x : Nat) (hi : i < N) (v1 : Value) (ho : Kd.R (Kd.int .i64) 3 w2 B (fun _ => True) v1 (nl (adj i) ++ [(x : Int)]))
  (hg : W.grownBy w2 (vs i).ownBlock) (hat : v1.ownBlock = (vs i).ownBlock ∨ ∃ b, v1.ownBlock = some b ∧ W.heap.size ≤ b) : NetAt nb mb xb B N n M (push1 adj i x) (setV vs i v1) (w2.setCell ⟨xb, i, none⟩ v1) ∧
   (∀ (k : Nat) (c : Array Value) (t : TypeId) (fr : Nat × Nat), W.heap[k]? = some (Obj.cells c t fr) → t ≠ 3 → t ≠ 43 → (w2.setCell ⟨xb, i, none⟩ v1).heap[k]? = some (Obj.cells c t fr)) := by
 obtain ⟨C, hC, hCi⟩ := h.row
 have own : ∀ k, (vs i).ownBlock = some k → ∃ cells, W.heap[k]? = some (.cells cells 3 (0, 0)) := fun k hk => by
  obtain ⟨_, inner, hw, _⟩ := h.rows i hi
  exact own_typed hw k hk
 have far : ∀ (k : Nat) (o : Obj), W.heap[k]? = some o → (∀ c, o ≠ .cells c 3 (0, 0)) → w2.heap[k]? = some o := fun k o hk hne => by
  rw [hg.block k (lt_of_some hk) (fun e => by
   obtain ⟨cells, hc⟩ := own k e.symm
   rw [hk] at hc
   exact hne _ (Option.some.inj hc))]
  exact hk
 have hC2 : w2.heap[xb]? = some (.cells C 43 (0, 0)) := far xb _ hC (fun c e => by injection e with _ e; exact absurd e (by decide))
 have keep : ∀ (k : Nat), k ≠ xb → (w2.setCell ⟨xb, i, none⟩ v1).heap[k]? = w2.heap[k]? := fun k hk => Below.heap_setCell w2 ⟨xb, i, none⟩ v1 k hk
 have nbx : nb ≠ xb := fun e => by
  have := h.net
  rw [e, hC] at this
  injection this with this
  injection this with _ this
  exact absurd this (by decide)
 have mbx : mb ≠ xb := fun e => by
  obtain ⟨D, ⟨es, clock, hb, _⟩, _⟩ := h.room
  rw [e, hC] at hb
  injection hb with hb
  cases hb
 refine ⟨⟨?_, ?_, ?_, ?_, ?_, h.bn, h.bm, h.bx⟩, ?_⟩
 ·rw [keep nb nbx]; exact far nb _ h.net (fun c e => by injection e with _ e; exact absurd e (by decide))
 ·refine h.room.step ?_
  obtain ⟨D, ⟨es, clock, hb, _⟩, _⟩ := h.room
  rw [keep mb mbx, hb]
  exact far mb _ hb (fun c e => by cases e)
 ·refine ⟨C.setIfInBounds i v1, blk_set hC2 i v1, fun j hj => ?_⟩
  have hs : i < C.size := lt_of_some (hCi i hi)
  rw [Array.getElem?_setIfInBounds]
  unfold setV
  by_cases e : i = j
  ·subst e; simp [hs]
  ·rw [if_neg e, if_neg (fun e' => e e'.symm)]; exact hCi j hj
 ·intro j hj
  unfold push1 setV
  by_cases e : j = i
  ·subst e
   rw [if_pos rfl, if_pos rfl, ← nl_snoc]
   exact Kd.R_set ho hC2 (by simp [Kd.int, Kd.scalar]) j v1
  ·rw [if_neg e, if_neg e]
   refine Kd.R_set ?_ hC2 (by simp [Kd.int, Kd.scalar]) i v1
   exact Kd.R_mono (Kd.R_grown (ok := fun k => (vs j).ownBlock = some k) (by
    obtain ⟨_, r⟩ := h.rows j hj
    exact ⟨fun k hk => hk, r.imp_ (fun _ _ hp => hp)⟩) hg (fun k hk e' => h.apart j i hj hi e k hk e'.symm)) (fun _ _ => trivial)
 ·intro j k hj hk hjk b hb hb'
  unfold setV at hb hb'
  have fresh : ∀ q, q < N → q ≠ i → ∀ b, v1.ownBlock = some b → (vs q).ownBlock = some b → False := fun q hq hqi b h1 h2 => by
   rcases hat with e | ⟨b', e, hlt⟩
   ·exact h.apart q i hq hi hqi b h2 (e ▸ h1)
   ·rw [e] at h1
    injection h1 with h1
    obtain ⟨_, inner, hw, _⟩ := h.rows q hq
    have := own_lt hw b h2
    omega
  by_cases e : j = i
  ·rw [if_pos e] at hb
   rw [if_neg (fun e' => hjk (e.trans e'.symm))] at hb'
   exact fresh k hk (fun e' => hjk (e.trans e'.symm)) b hb hb'
  ·rw [if_neg e] at hb
   by_cases e' : k = i
   ·rw [if_pos e'] at hb'
    exact fresh j hj e b hb' hb
   ·rw [if_neg e'] at hb'
    exact h.apart j k hj hk hjk b hb hb'
 ·intro k c t fr hk h1 h2
  rw [keep k (fun e => by
   rw [e, hC] at hk
   injection hk with hk
   injection hk with _ hk
   exact h2 hk.symm)]
  exact far k _ hk (fun c' e => by injection e with _ e; exact h1 e)
end Go.Proofs.YtiioklboaookiaaGreatDoor.Q
namespace Go.Proofs.YtiioklboaookiaaGreatDoor.Q
open Go.RowKit Go.Proofs.YtiioklboaookiaaGreatDoorW.PrintWords Go.Proofs.YtiioklboaookiaaGreatDoorW.PrintLast Go.Proofs.YtiioklboaookiaaGreatDoor.Hand Go.Proofs.YtiioklboaookiaaGreatDoorW.PrintMore
attribute [local go_sem] max2_int min2_int max_two min_two max_three min_three max_four min_four
set_option linter.unusedVariables false
set_option linter.unusedSimpArgs false
theorem NetAt.put {nb mb xb B N n n' : Nat} {M M' : Nat → Nat → Int} {adj : Nat → List Nat} {vs : Nat → Value} {w w1 : World} (h : NetAt nb mb xb B N n M adj vs w) (hR : RoomAt mb n' M' w1) (hg : w.grownBy w1 (some mb)) : NetAt nb mb xb B N n' M' adj vs w1 ∧ NetKeep B w w1 := by
 have ismap : ∀ (k : Nat) (c : Array Value) (t : TypeId) (fr : Nat × Nat), w.heap[k]? = some (Obj.cells c t fr) → some k ≠ some mb := fun k c t fr hk e => by
  injection e with e
  obtain ⟨D, ⟨es, clock, hb, _⟩, _⟩ := h.room
  rw [e, hb] at hk
  injection hk with hk
  cases hk
 have far : ∀ (k : Nat) (c : Array Value) (t : TypeId) (fr : Nat × Nat), w.heap[k]? = some (Obj.cells c t fr) → w1.heap[k]? = some (Obj.cells c t fr) := fun k c t fr hk => (hg.block k (lt_of_some hk) (ismap k c t fr hk)).trans hk
 obtain ⟨C, hC, hCi⟩ := h.row
 refine ⟨⟨far _ _ _ _ h.net, hR, ⟨C, far _ _ _ _ hC, hCi⟩, fun i hi => ?_, h.apart, h.bn, h.bm, h.bx⟩, ⟨?_, fun k c t fr hk _ _ => far k c t fr hk⟩⟩
 ·refine Kd.R_mono (Kd.R_grown (Kd.R_bound (h.rows i hi)) hg (fun k hk => ?_)) (fun _ _ => trivial)
  obtain ⟨_, _, _, q, _, cells, hc⟩ := hk
  exact ismap k cells q (0, 0) hc
 ·exact (Below.refl B w).grown hg (by have := h.bm; have := h.room.lt; omega) (fun k hk => by injection hk with hk; rw [← hk]; exact h.bm)
theorem NetAt.cells {nb mb xb B N n : Nat} {M : Nat → Nat → Int} {adj : Nat → List Nat} {vs : Nat → Value} {w : World} (h : NetAt nb mb xb B N n M adj vs w) : w.cell? ⟨nb, 0, none⟩ = some (.map (some mb)) ∧ w.cell? ⟨nb, 1, none⟩ = some (.slice (some ⟨xb, 0, none⟩) N N) := by
 simp [World.cell?, h.net]
theorem NetAt.rowAt {nb mb xb B N n : Nat} {M : Nat → Nat → Int} {adj : Nat → List Nat} {vs : Nat → Value} {w : World} (h : NetAt nb mb xb B N n M adj vs w) (i : Nat) (hi : i < N) : w.cell? ⟨xb, i, none⟩ = some (vs i) ∧ w.frozen? ⟨xb, i, none⟩ = false := by
 obtain ⟨C, h1, h2⟩ := h.row
 simp [World.cell?, World.frozen?, h1, h2 i hi]
theorem NetAt.grownCells {nb mb xb B N n : Nat} {M : Nat → Nat → Int} {adj : Nat → List Nat} {vs : Nat → Value} {W w2 : World} (h : NetAt nb mb xb B N n M adj vs W) (i : Nat) (hi : i < N) (hg : W.grownBy w2 (vs i).ownBlock) :
  w2.cell? ⟨nb, 1, none⟩ = some (.slice (some ⟨xb, 0, none⟩) N N) ∧ (∀ j, j < N → w2.cell? ⟨xb, j, none⟩ = some (vs j) ∧ w2.frozen? ⟨xb, j, none⟩ = false) := by
 have far : ∀ (k : Nat) (c : Array Value) (t : TypeId) (fr : Nat × Nat), W.heap[k]? = some (Obj.cells c t fr) → t ≠ 3 → w2.heap[k]? = some (Obj.cells c t fr) := fun k c t fr hk ht => by
  rw [hg.block k (lt_of_some hk) (fun e => by
   obtain ⟨_, inner, hw, _⟩ := h.rows i hi
   obtain ⟨cells, hc⟩ := own_typed hw k e.symm
   rw [hk] at hc
   injection hc with hc
   injection hc with _ hc
   exact ht hc)]
  exact hk
 obtain ⟨C, hC, hCi⟩ := h.row
 have h1 := far _ _ _ _ h.net (by decide)
 have h2 := far _ _ _ _ hC (by decide)
 exact ⟨by simp [World.cell?, h1], fun j hj => by simp [World.cell?, World.frozen?, h2, hCi j hj]⟩
theorem NetAt.base {nb mb xb B N n : Nat} {M : Nat → Nat → Int} {adj : Nat → List Nat} {vs : Nat → Value} {w : World} (h : NetAt nb mb xb B N n M adj vs w) : B ≤ w.heap.size := by have := h.bm; have := h.room.lt; omega
set_option maxHeartbeats 8000000 in
set_option maxRecDepth 100000 in
theorem add_walk (nb mb xb B N n : Nat) (M : Nat → Nat → Int) (adj : Nat → List Nat) (vs : Nat → Value) (w : World) (u v : Nat) (x : Int) (h : NetAt nb mb xb B N n M adj vs w) (hN : N ≤ 1000) (hn : n < 1000000000) (hu : u < N) (hv : v < N) (hx : (Lit.int .i64 x).wf = true) (hadj : ∀ i, (adj i).length < 1000000) :
  Calls Tryz.prog 101 #[.pointer (some ⟨nb, 0, none⟩), .int .i64 u, .int .i64 v, .int .i64 x] w fun e w' => e = .returned (.tuple #[]) ∧ (∃ vs', NetAt nb mb xb B N (n + 1) (upd M u v x) (push1 (push1 adj u v) v u) vs' w') ∧ NetKeep B w w' := by
 obtain ⟨w1, hrun, hR1, hg1⟩ := h.room.put (u := u) (v := v) (x := x) (by unfold maxLen; omega) (by omega) (by omega) hx
 unfold arcV at hrun
 obtain ⟨hn1, hk1⟩ := h.put hR1 hg1
 have HN1 := hid hn1
 have HK1 := hid hk1
 have HADJ := hid hadj
 have q0 : w.cell? ⟨nb, 0, none⟩ = some (.map (some mb)) := h.cells.1
 have C1 := hid (show w1.drew.cell? ⟨nb, 1, none⟩ = some (.slice (some ⟨xb, 0, none⟩) N N) from hn1.cells.2)
 have C2 := hid (show w1.drew.cell? ⟨xb, u, none⟩ = some (vs u) from (hn1.rowAt u hu).1)
 have HL1 := hid hn1.lt
 have u0 : (0 : Int) ≤ (u : Int) := by omega
 have u1 : (u : Int) < (N : Int) := by omega
 have v0 : (0 : Int) ≤ (v : Int) := by omega
 have v1_ : (v : Int) < (N : Int) := by omega
 clear h hR1 hg1 hn1 hk1
 go_enter Tryz.func101, Tryz.ntmps101
 go_wp2_with (fail)
 refine start_ (n := 17) (S := fun w' => w'.cell? ⟨nb, 1, none⟩ = some (.slice (some ⟨xb, 0, none⟩) N N) ∧ w'.cell? ⟨xb, u, none⟩ = some (vs u)) (ds := [16]) #[false, false, false, false, false, false, false, false, false, false, false, false, false, false, false, false, false] (by kernel_rfl) rfl rfl ⟨C1.out, C2.out⟩ (fun hHeld => ?_)
 refine pure_ (i := 0) (N := some 16) (v := ?_) (a' := ?_) #[true, false, false, false, false, false, false, false, false, false, false, false, false, false, false, false, false] rfl rfl (by kernel_rfl) (fun _ _ _ h => h) (Or.inl ⟨by rfl, ?_⟩) ?_ ?_
 rotate_left
 ·intro w'
  go_simp
  with_reducible rfl
 rotate_left
 ·simp only [Act.put, List.setIfInBounds_toArray, List.set_cons_zero, List.set_cons_succ, i64_w, i32_w]
  rfl
 refine pure_ (i := 1) (N := some 17) (v := ?_) (a' := ?_) #[true, true, false, false, false, false, false, false, false, false, false, false, false, false, false, false, false] rfl rfl (by kernel_rfl) (fun _ _ _ h => h) (Or.inl ⟨by rfl, ?_⟩) ?_ ?_
 rotate_left
 ·intro w'
  go_simp
  with_reducible rfl
 rotate_left
 ·simp only [Act.put, List.setIfInBounds_toArray, List.set_cons_zero, List.set_cons_succ, i64_w, i32_w]
  rfl
 refine pure_ (i := 2) (N := some 18) (v := ?_) (a' := ?_) #[true, true, true, false, false, false, false, false, false, false, false, false, false, false, false, false, false] rfl rfl (by kernel_rfl) (fun _ _ _ h => h) (Or.inl ⟨by rfl, ?_⟩) ?_ ?_
 rotate_left
 ·intro w'
  go_simp
  with_reducible rfl
 rotate_left
 ·simp only [Act.put, List.setIfInBounds_toArray, List.set_cons_zero, List.set_cons_succ, i64_w, i32_w]
  rfl
 refine pure_ (i := 4) (N := some 20) (v := ?_) (a' := ?_) #[true, true, true, false, true, false, false, false, false, false, false, false, false, false, false, false, false] rfl rfl (by kernel_rfl) (fun _ _ _ h => h) (Or.inl ⟨by rfl, ?_⟩) ?_ ?_
 rotate_left
 ·intro w'
  go_simp
  with_reducible rfl
 rotate_left
 ·simp only [Act.put, List.setIfInBounds_toArray, List.set_cons_zero, List.set_cons_succ, i64_w, i32_w]
  rfl
 refine pure_ (i := 5) (N := some 21) (v := ?_) (a' := ?_) #[true, true, true, false, true, true, false, false, false, false, false, false, false, false, false, false, false] rfl rfl (by kernel_rfl) (fun _ _ _ h => h) (Or.inl ⟨by rfl, ?_⟩) ?_ ?_
 rotate_left
 ·intro w'
  go_simp
  with_reducible rfl
 rotate_left
 ·simp only [Act.put, List.setIfInBounds_toArray, List.set_cons_zero, List.set_cons_succ, i64_w, i32_w]
  rfl
 refine pure_ (i := 6) (N := some 22) (v := ?_) (a' := ?_) #[true, true, true, false, true, true, true, false, false, false, false, false, false, false, false, false, false] rfl rfl (by kernel_rfl) (fun _ _ _ h => h) (Or.inl ⟨by rfl, ?_⟩) ?_ ?_
 rotate_left
 ·intro w'
  go_simp
  with_reducible rfl
 rotate_left
 ·simp only [Act.put, List.setIfInBounds_toArray, List.set_cons_zero, List.set_cons_succ, i64_w, i32_w]
  rfl
 refine pure_ (i := 7) (N := some 23) (v := ?_) (a' := ?_) #[true, true, true, false, true, true, true, true, false, false, false, false, false, false, false, false, false] rfl rfl (by kernel_rfl) (fun _ _ _ h => h) (Or.inl ⟨by rfl, ?_⟩) ?_ ?_
 rotate_left
 ·intro w'
  go_simp
  with_reducible rfl
 rotate_left
 ·simp only [Act.put, List.setIfInBounds_toArray, List.set_cons_zero, List.set_cons_succ, i64_w, i32_w]
  rfl
 refine pure_ (i := 9) (N := some 25) (v := ?_) (a' := ?_) #[true, true, true, false, true, true, true, true, false, true, false, false, false, false, false, false, false] rfl rfl (by kernel_rfl) (fun _ _ _ h => h) (Or.inl ⟨by rfl, ?_⟩) ?_ ?_
 rotate_left
 ·intro w'
  go_simp
  with_reducible rfl
 rotate_left
 ·simp only [Act.put, List.setIfInBounds_toArray, List.set_cons_zero, List.set_cons_succ, i64_w, i32_w]
  rfl
 refine pure_ (i := 12) (N := some 28) (v := ?_) (a' := ?_) #[true, true, true, false, true, true, true, true, false, true, false, false, true, false, false, false, false] rfl rfl (by kernel_rfl) (fun _ _ _ h => h) (Or.inl ⟨by rfl, ?_⟩) ?_ ?_
 rotate_left
 ·intro w'
  go_simp
  with_reducible rfl
 rotate_left
 ·simp only [Act.put, List.setIfInBounds_toArray, List.set_cons_zero, List.set_cons_succ, i64_w, i32_w]
  rfl
 refine take_ (i := 3) (N := some 19) (v := ?_) (a' := ?_) #[true, true, true, true, true, true, true, true, false, true, false, false, true, false, false, false, false] rfl rfl (by kernel_rfl) (fun _ _ _ h => h) (Or.inl ⟨by rfl, ?_⟩) hHeld ?_ ?_
 rotate_left
 ·rintro w' ⟨s0, s1⟩
  go_simp
  with_reducible rfl
 rotate_left
 ·simp only [Act.put, List.setIfInBounds_toArray, List.set_cons_zero, List.set_cons_succ, i64_w, i32_w]
  rfl
 refine take_ (i := 8) (N := some 24) (v := ?_) (a' := ?_) #[true, true, true, true, true, true, true, true, true, true, false, false, true, false, false, false, false] rfl rfl (by kernel_rfl) (fun _ _ _ h => h) (Or.inl ⟨by rfl, ?_⟩) hHeld ?_ ?_
 rotate_left
 ·rintro w' ⟨s0, s1⟩
  go_simp
  with_reducible rfl
 rotate_left
 ·simp only [Act.put, List.setIfInBounds_toArray, List.set_cons_zero, List.set_cons_succ, i64_w, i32_w]
  rfl
 refine pure_ (i := 10) (N := some 26) (v := ?_) (a' := ?_) #[true, true, true, true, true, true, true, true, true, true, true, false, true, false, false, false, false] rfl rfl (by kernel_rfl) (fun _ _ _ h => h) (Or.inl ⟨by rfl, ?_⟩) ?_ ?_
 rotate_left
 ·intro w'
  go_simp
  with_reducible rfl
 rotate_left
 ·simp only [Act.put, List.setIfInBounds_toArray, List.set_cons_zero, List.set_cons_succ, i64_w, i32_w]
  rfl
 refine take_ (i := 11) (N := some 27) (v := ?_) (a' := ?_) #[true, true, true, true, true, true, true, true, true, true, true, true, true, false, false, false, false] rfl rfl (by kernel_rfl) (fun _ _ _ h => h) (Or.inl ⟨by rfl, ?_⟩) hHeld ?_ ?_
 rotate_left
 ·rintro w' ⟨s0, s1⟩
  go_simp
  with_reducible rfl
 rotate_left
 ·simp only [Act.put, List.setIfInBounds_toArray, List.set_cons_zero, List.set_cons_succ, i64_w, i32_w]
  rfl
 refine one_ (i := 13) (N := some 29) #[true, true, true, true, true, true, true, true, true, true, true, true, true, true, false, false, false] rfl rfl (by kernel_rfl) (by decide) (fun K hK => ?_)
 refine value_ (w1 := ?_) (v := ?_) (by rfl) rfl ?_ ?_
 rotate_left 2
 ·go_simp
  first | (refine ⟨?_, ?_⟩ <;> rfl) | rfl
 refine hK.out _ _ ⟨by rw [World.cell?_drew, World.cell?_alloc_old _ _ _ (Nat.ne_of_lt HL1.out.1)]; exact C1.out, by rw [World.cell?_drew, World.cell?_alloc_old _ _ _ (Nat.ne_of_lt HL1.out.2.2)]; exact C2.out⟩ (fun hHeld => ?_)
 clear hK K
 refine norm_ (a' := ?_) ?_ ?_
 rotate_left
 ·show Act.put _ (some 29) _ = _
  simp only [Act.put, List.setIfInBounds_toArray, List.set_cons_zero, List.set_cons_succ, i64_w, i32_w]
  rfl
 refine one_ (i := 14) (N := some 30) #[true, true, true, true, true, true, true, true, true, true, true, true, true, true, true, false, false] rfl rfl (by kernel_rfl) (by decide) (fun K hK => ?_)
 refine Kd.R_append_step (Kd.int .i64) (w0 := w1.drew) B (by rfl) (.tmp 27) (.tmp 29) 43 3 (.int .i64 0) 8 rfl Tryz.underlying43 infoIntN rfl (by decide) (by omega) (vs u) (nl (adj u)) (v : Int) [.int .i64 (v : Int)] (fun _ => True) (fun _ => False) rfl rfl rfl (fun _ hk => hk.elim) (fun _ _ => trivial) (Kd.R_drew (HN1.out.rows u hu)) (Below.refl _ _) (HN1.out.base) ?aL ?_
 (case aL => rw [nl_length]; have := HADJ.out u; omega)
 intro v1 w2 ho hb hg hat
 obtain ⟨A1, c1, eR⟩ := Kd.R_slice ho
 obtain ⟨L1, hL1⟩ : ∃ L1, L1 = (nl (adj u) ++ [(v : Int)]).length := ⟨_, rfl⟩
 rw [← hL1] at eR
 clear hL1
 subst eR
 have HO := Aside0.mk ho
 have HG := Aside0.mk hg
 have HBb := Aside0.mk hb
 have HAT := Aside0.mk hat
 have g0 := (NetAt.grownCells (HN1.out.below (below_drew1 (Below.refl _ _))) u hu HG.out).1
 have g1 := ((NetAt.grownCells (HN1.out.below (below_drew1 (Below.refl _ _))) u hu HG.out).2 u hu).1
 have gf := ((NetAt.grownCells (HN1.out.below (below_drew1 (Below.refl _ _))) u hu HG.out).2 u hu).2
 clear ho hb hg hat
 refine hK.out _ _ ⟨g0, g1⟩ (fun hHeld => ?_)
 clear hK K
 refine norm_ (a' := ?_) ?_ ?_
 rotate_left
 ·show Act.put _ (some 30) _ = _
  simp only [Act.put, List.setIfInBounds_toArray, List.set_cons_zero, List.set_cons_succ, i64_w, i32_w]
  rfl
 refine pure_ (i := 15) (N := some 31) (v := ?_) (a' := ?_) #[true, true, true, true, true, true, true, true, true, true, true, true, true, true, true, true, false] rfl rfl (by kernel_rfl) (fun _ _ _ h => h) (Or.inl ⟨by rfl, ?_⟩) ?_ ?_
 rotate_left
 ·intro w'
  go_simp
  with_reducible rfl
 rotate_left
 ·simp only [Act.put, List.setIfInBounds_toArray, List.set_cons_zero, List.set_cons_succ, i64_w, i32_w]
  rfl
 refine last_ (i := 16) (N := none) #[true, true, true, true, true, true, true, true, true, true, true, true, true, true, true, true, true] rfl rfl (by kernel_rfl) (by decide) (fun K hK => ?_)
 refine skip_ (w1 := ?_) (by rfl) rfl ?_ ?_
 rotate_left
 ·go_simp
  rfl
 refine hK.out _ _ ?_
 clear hK K
 refine done_ (by kernel_rfl) ?_
 obtain ⟨hn3, hk3⟩ := NetAt.grow (HN1.out.below (below_drew1 (Below.refl _ _))) u v hu (.slice A1 L1 c1) HO.out HG.out HAT.out
 have hbel3 := Below.setCell (p := ⟨xb, u, none⟩) HBb.out HN1.out.bx (.slice A1 L1 c1)
 obtain ⟨w3, hw3⟩ : ∃ w3, w3 = w2.setCell ⟨xb, u, none⟩ (.slice A1 L1 c1) := ⟨_, rfl⟩
 rw [← hw3] at hn3 hk3 hbel3 ⊢
 obtain ⟨vs3, hvs3⟩ : ∃ vs3, vs3 = setV vs u (.slice A1 L1 c1) := ⟨_, rfl⟩
 rw [← hvs3] at hn3
 clear hvs3 hw3 HO HG HBb HAT g0 g1 gf C1 C2
 have HN3 := hid hn3
 have HK3 : Hid (NetKeep B w w3) := (HK1.out.trans (NetKeep.of (below_drew1 (Below.refl _ _)) HN1.out.base)).trans ⟨hbel3, hk3⟩
 have C1 := hid (show w3.drew.cell? ⟨nb, 1, none⟩ = some (.slice (some ⟨xb, 0, none⟩) N N) from hn3.cells.2)
 have C2 := hid (show w3.drew.cell? ⟨xb, v, none⟩ = some (vs3 v) from (hn3.rowAt v hv).1)
 have HL3 := hid hn3.lt
 have hadj3 : ((push1 adj u v) v).length < 1000001 := by
  unfold push1
  split
  ·rw [List.length_append]; have := HADJ.out u; simp; omega
  ·have := HADJ.out v; omega
 clear hn3 hk3 hbel3
 (try go_wp2)
 refine start_ (n := 17) (S := fun w' => w'.cell? ⟨nb, 1, none⟩ = some (.slice (some ⟨xb, 0, none⟩) N N) ∧ w'.cell? ⟨xb, v, none⟩ = some (vs3 v)) (ds := [16]) #[false, false, false, false, false, false, false, false, false, false, false, false, false, false, false, false, false] (by kernel_rfl) rfl rfl ⟨C1.out, C2.out⟩ (fun hHeld => ?_)
 refine pure_ (i := 0) (N := some 32) (v := ?_) (a' := ?_) #[true, false, false, false, false, false, false, false, false, false, false, false, false, false, false, false, false] rfl rfl (by kernel_rfl) (fun _ _ _ h => h) (Or.inl ⟨by rfl, ?_⟩) ?_ ?_
 rotate_left
 ·intro w'
  go_simp
  with_reducible rfl
 rotate_left
 ·simp only [Act.put, List.setIfInBounds_toArray, List.set_cons_zero, List.set_cons_succ, i64_w, i32_w]
  rfl
 refine pure_ (i := 1) (N := some 33) (v := ?_) (a' := ?_) #[true, true, false, false, false, false, false, false, false, false, false, false, false, false, false, false, false] rfl rfl (by kernel_rfl) (fun _ _ _ h => h) (Or.inl ⟨by rfl, ?_⟩) ?_ ?_
 rotate_left
 ·intro w'
  go_simp
  with_reducible rfl
 rotate_left
 ·simp only [Act.put, List.setIfInBounds_toArray, List.set_cons_zero, List.set_cons_succ, i64_w, i32_w]
  rfl
 refine pure_ (i := 2) (N := some 34) (v := ?_) (a' := ?_) #[true, true, true, false, false, false, false, false, false, false, false, false, false, false, false, false, false] rfl rfl (by kernel_rfl) (fun _ _ _ h => h) (Or.inl ⟨by rfl, ?_⟩) ?_ ?_
 rotate_left
 ·intro w'
  go_simp
  with_reducible rfl
 rotate_left
 ·simp only [Act.put, List.setIfInBounds_toArray, List.set_cons_zero, List.set_cons_succ, i64_w, i32_w]
  rfl
 refine pure_ (i := 4) (N := some 36) (v := ?_) (a' := ?_) #[true, true, true, false, true, false, false, false, false, false, false, false, false, false, false, false, false] rfl rfl (by kernel_rfl) (fun _ _ _ h => h) (Or.inl ⟨by rfl, ?_⟩) ?_ ?_
 rotate_left
 ·intro w'
  go_simp
  with_reducible rfl
 rotate_left
 ·simp only [Act.put, List.setIfInBounds_toArray, List.set_cons_zero, List.set_cons_succ, i64_w, i32_w]
  rfl
 refine pure_ (i := 5) (N := some 37) (v := ?_) (a' := ?_) #[true, true, true, false, true, true, false, false, false, false, false, false, false, false, false, false, false] rfl rfl (by kernel_rfl) (fun _ _ _ h => h) (Or.inl ⟨by rfl, ?_⟩) ?_ ?_
 rotate_left
 ·intro w'
  go_simp
  with_reducible rfl
 rotate_left
 ·simp only [Act.put, List.setIfInBounds_toArray, List.set_cons_zero, List.set_cons_succ, i64_w, i32_w]
  rfl
 refine pure_ (i := 6) (N := some 38) (v := ?_) (a' := ?_) #[true, true, true, false, true, true, true, false, false, false, false, false, false, false, false, false, false] rfl rfl (by kernel_rfl) (fun _ _ _ h => h) (Or.inl ⟨by rfl, ?_⟩) ?_ ?_
 rotate_left
 ·intro w'
  go_simp
  with_reducible rfl
 rotate_left
 ·simp only [Act.put, List.setIfInBounds_toArray, List.set_cons_zero, List.set_cons_succ, i64_w, i32_w]
  rfl
 refine pure_ (i := 7) (N := some 39) (v := ?_) (a' := ?_) #[true, true, true, false, true, true, true, true, false, false, false, false, false, false, false, false, false] rfl rfl (by kernel_rfl) (fun _ _ _ h => h) (Or.inl ⟨by rfl, ?_⟩) ?_ ?_
 rotate_left
 ·intro w'
  go_simp
  with_reducible rfl
 rotate_left
 ·simp only [Act.put, List.setIfInBounds_toArray, List.set_cons_zero, List.set_cons_succ, i64_w, i32_w]
  rfl
 refine pure_ (i := 9) (N := some 41) (v := ?_) (a' := ?_) #[true, true, true, false, true, true, true, true, false, true, false, false, false, false, false, false, false] rfl rfl (by kernel_rfl) (fun _ _ _ h => h) (Or.inl ⟨by rfl, ?_⟩) ?_ ?_
 rotate_left
 ·intro w'
  go_simp
  with_reducible rfl
 rotate_left
 ·simp only [Act.put, List.setIfInBounds_toArray, List.set_cons_zero, List.set_cons_succ, i64_w, i32_w]
  rfl
 refine pure_ (i := 12) (N := some 44) (v := ?_) (a' := ?_) #[true, true, true, false, true, true, true, true, false, true, false, false, true, false, false, false, false] rfl rfl (by kernel_rfl) (fun _ _ _ h => h) (Or.inl ⟨by rfl, ?_⟩) ?_ ?_
 rotate_left
 ·intro w'
  go_simp
  with_reducible rfl
 rotate_left
 ·simp only [Act.put, List.setIfInBounds_toArray, List.set_cons_zero, List.set_cons_succ, i64_w, i32_w]
  rfl
 refine take_ (i := 3) (N := some 35) (v := ?_) (a' := ?_) #[true, true, true, true, true, true, true, true, false, true, false, false, true, false, false, false, false] rfl rfl (by kernel_rfl) (fun _ _ _ h => h) (Or.inl ⟨by rfl, ?_⟩) hHeld ?_ ?_
 rotate_left
 ·rintro w' ⟨s0, s1⟩
  go_simp
  with_reducible rfl
 rotate_left
 ·simp only [Act.put, List.setIfInBounds_toArray, List.set_cons_zero, List.set_cons_succ, i64_w, i32_w]
  rfl
 refine take_ (i := 8) (N := some 40) (v := ?_) (a' := ?_) #[true, true, true, true, true, true, true, true, true, true, false, false, true, false, false, false, false] rfl rfl (by kernel_rfl) (fun _ _ _ h => h) (Or.inl ⟨by rfl, ?_⟩) hHeld ?_ ?_
 rotate_left
 ·rintro w' ⟨s0, s1⟩
  go_simp
  with_reducible rfl
 rotate_left
 ·simp only [Act.put, List.setIfInBounds_toArray, List.set_cons_zero, List.set_cons_succ, i64_w, i32_w]
  rfl
 refine pure_ (i := 10) (N := some 42) (v := ?_) (a' := ?_) #[true, true, true, true, true, true, true, true, true, true, true, false, true, false, false, false, false] rfl rfl (by kernel_rfl) (fun _ _ _ h => h) (Or.inl ⟨by rfl, ?_⟩) ?_ ?_
 rotate_left
 ·intro w'
  go_simp
  with_reducible rfl
 rotate_left
 ·simp only [Act.put, List.setIfInBounds_toArray, List.set_cons_zero, List.set_cons_succ, i64_w, i32_w]
  rfl
 refine take_ (i := 11) (N := some 43) (v := ?_) (a' := ?_) #[true, true, true, true, true, true, true, true, true, true, true, true, true, false, false, false, false] rfl rfl (by kernel_rfl) (fun _ _ _ h => h) (Or.inl ⟨by rfl, ?_⟩) hHeld ?_ ?_
 rotate_left
 ·rintro w' ⟨s0, s1⟩
  go_simp
  with_reducible rfl
 rotate_left
 ·simp only [Act.put, List.setIfInBounds_toArray, List.set_cons_zero, List.set_cons_succ, i64_w, i32_w]
  rfl
 refine one_ (i := 13) (N := some 45) #[true, true, true, true, true, true, true, true, true, true, true, true, true, true, false, false, false] rfl rfl (by kernel_rfl) (by decide) (fun K hK => ?_)
 refine value_ (w1 := ?_) (v := ?_) (by rfl) rfl ?_ ?_
 rotate_left 2
 ·go_simp
  first | (refine ⟨?_, ?_⟩ <;> rfl) | rfl
 refine hK.out _ _ ⟨by rw [World.cell?_drew, World.cell?_alloc_old _ _ _ (Nat.ne_of_lt HL3.out.1)]; exact C1.out, by rw [World.cell?_drew, World.cell?_alloc_old _ _ _ (Nat.ne_of_lt HL3.out.2.2)]; exact C2.out⟩ (fun hHeld => ?_)
 clear hK K
 refine norm_ (a' := ?_) ?_ ?_
 rotate_left
 ·show Act.put _ (some 45) _ = _
  simp only [Act.put, List.setIfInBounds_toArray, List.set_cons_zero, List.set_cons_succ, i64_w, i32_w]
  rfl
 refine one_ (i := 14) (N := some 46) #[true, true, true, true, true, true, true, true, true, true, true, true, true, true, true, false, false] rfl rfl (by kernel_rfl) (by decide) (fun K hK => ?_)
 refine Kd.R_append_step (Kd.int .i64) (w0 := w3.drew) B (by rfl) (.tmp 43) (.tmp 45) 43 3 (.int .i64 0) 8 rfl Tryz.underlying43 infoIntN rfl (by decide) (by omega) (vs3 v) (nl ((push1 adj u v) v)) (u : Int) [.int .i64 (u : Int)] (fun _ => True) (fun _ => False) rfl rfl rfl (fun _ hk => hk.elim) (fun _ _ => trivial) (Kd.R_drew (HN3.out.rows v hv)) (Below.refl _ _) (HN3.out.base) ?aL ?_
 (case aL => rw [nl_length]; have := hadj3; omega)
 intro v1 w4 ho hb hg hat
 obtain ⟨A1, c1, eR⟩ := Kd.R_slice ho
 obtain ⟨L1, hL1⟩ : ∃ L1, L1 = (nl ((push1 adj u v) v) ++ [(u : Int)]).length := ⟨_, rfl⟩
 rw [← hL1] at eR
 clear hL1
 subst eR
 have HO := Aside0.mk ho
 have HG := Aside0.mk hg
 have HBb := Aside0.mk hb
 have HAT := Aside0.mk hat
 have g0 := (NetAt.grownCells (HN3.out.below (below_drew1 (Below.refl _ _))) v hv HG.out).1
 have g1 := ((NetAt.grownCells (HN3.out.below (below_drew1 (Below.refl _ _))) v hv HG.out).2 v hv).1
 have gf := ((NetAt.grownCells (HN3.out.below (below_drew1 (Below.refl _ _))) v hv HG.out).2 v hv).2
 clear ho hb hg hat
 refine hK.out _ _ ⟨g0, g1⟩ (fun hHeld => ?_)
 clear hK K
 refine norm_ (a' := ?_) ?_ ?_
 rotate_left
 ·show Act.put _ (some 46) _ = _
  simp only [Act.put, List.setIfInBounds_toArray, List.set_cons_zero, List.set_cons_succ, i64_w, i32_w]
  rfl
 refine pure_ (i := 15) (N := some 47) (v := ?_) (a' := ?_) #[true, true, true, true, true, true, true, true, true, true, true, true, true, true, true, true, false] rfl rfl (by kernel_rfl) (fun _ _ _ h => h) (Or.inl ⟨by rfl, ?_⟩) ?_ ?_
 rotate_left
 ·intro w'
  go_simp
  with_reducible rfl
 rotate_left
 ·simp only [Act.put, List.setIfInBounds_toArray, List.set_cons_zero, List.set_cons_succ, i64_w, i32_w]
  rfl
 refine last_ (i := 16) (N := none) #[true, true, true, true, true, true, true, true, true, true, true, true, true, true, true, true, true] rfl rfl (by kernel_rfl) (by decide) (fun K hK => ?_)
 refine skip_ (w1 := ?_) (by rfl) rfl ?_ ?_
 rotate_left
 ·go_simp
  rfl
 refine hK.out _ _ ?_
 clear hK K
 refine done_ (by kernel_rfl) ?_
 obtain ⟨hn5, hk5⟩ := NetAt.grow (HN3.out.below (below_drew1 (Below.refl _ _))) v u hv (.slice A1 L1 c1) HO.out HG.out HAT.out
 have hbel5 := Below.setCell (p := ⟨xb, v, none⟩) HBb.out HN3.out.bx (.slice A1 L1 c1)
 (try go_wp2)
 go_end0
 exact ⟨rfl, ⟨_, hn5⟩, (HK3.out.trans (NetKeep.of (below_drew1 (Below.refl _ _)) HN3.out.base)).trans ⟨hbel5, hk5⟩⟩
end Go.Proofs.YtiioklboaookiaaGreatDoor.Q
