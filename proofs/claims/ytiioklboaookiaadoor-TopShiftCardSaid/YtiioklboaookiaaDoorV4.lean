/- A part of the proof: what the law's row needs. -/
import Derived.Test.YtiioklboaookiaaDoorProg
import Derived.Below
import Derived.Deep.Draws
import Derived.Deep.AppendLies
import Derived.Maps.AppendAt
import Derived.OwnWalk
import Derived.Laws.BytesArg
import Derived.Laws.MakeOwn
import Derived.Laws.OwnMore
import Derived.Deep.OwnRows
import Derived.Tactics
import Derived.Lib.ConvBytes
import Derived.Laws.Slices
import Derived.WalkKit
import Derived.KernelRfl
import Derived.RowKit3
import Derived.Deep.LoopGhost
import Derived.Deep.QuietTactic
import Derived.BigQuiet
import Derived.WideLaws
import Derived.Deep.DeepCutAuto
import Derived.Deep.CutBlock
import Derived.Deep.RegionHeld3
import Derived.Laws.Rows
import Derived.Lib.AppendStr
import Derived.ArgAppend
import Derived.Laws.IdiomCopy
import Derived.OrdersHeld
import Derived.Laws.BitsLemmas
import Derived.RowKit
import Derived.RegionTactic
import Derived.ChangeAlike
import Derived.Deep.RegionWith
import Derived.IntWalk
import Derived.WideKeyEntry
import Derived.DeepKeys4
import Derived.Maps.Own
import Derived.Maps.OwnOps
import Derived.Maps.OwnSet
import Derived.Maps.Views
import Derived.Laws.StructEq
import Derived.Shelf.Sort.Plain
import Derived.Shelf.Slices.CompactI
import Derived.Sort.OwnSortedInts
import Derived.Shelf.Slices.In.SortNone
import Derived.Test.YtiioklboaookiaaDoorV3
namespace Go.Proofs.YtiioklboaookiaaDoor.Hand
open Go.RowKit Go.Proofs.YtiioklboaookiaaDoorW.PrintWords Go.Proofs.YtiioklboaookiaaDoorW.PrintLast Go.Proofs.YtiioklboaookiaaDoorW.PrintMore
open Rs (xt pw_bd lg_pw pw_lg pw_mod)
attribute [local go_sem] max2_int min2_int max_two min_two max_three min_three max_four min_four
set_option linter.unusedVariables false
set_option linter.unusedSimpArgs false
structure Tab where
 T : Nat → Nat → Int
 S : Nat → Nat → Int × Int
def Tab.put (t : Tab) (x y : Nat) (v : Int) (s : Int × Int) : Tab := ⟨fun i j => if i = x ∧ j = y then v else t.T i j, fun i j => if i = x ∧ j = y then s else t.S i j⟩
def Tab.imp (t : Tab) (x y : Nat) (v : Int) (s : Int × Int) : Tab := if t.T x y < v then t.put x y v s else t
def TabAt (b : Nat) (t : Tab) (w : World) : Prop :=
 (∀ x y, x < 49 → y < 49 → w.cell? ⟨b, x * 49 + y, none⟩ = some (.int .i64 (t.T x y)) ∧ w.cell? ⟨b, 2401 + x * 98 + y * 2, none⟩ = some (.int .i64 (t.S x y).1) ∧ w.cell? ⟨b, 2401 + x * 98 + y * 2 + 1, none⟩ = some (.int .i64 (t.S x y).2)) ∧
 (∀ j, w.frozen? ⟨b, j, none⟩ = false) ∧ b < w.heap.size
theorem TabAt.heap {b : Nat} {t : Tab} {w w1 : World} (h : TabAt b t w) (he : w1.heap[b]? = w.heap[b]?) (hs : b < w1.heap.size) : TabAt b t w1 := by
 obtain ⟨h1, h2, h3⟩ := h
 have hc : ∀ j, w1.cell? ⟨b, j, none⟩ = w.cell? ⟨b, j, none⟩ := fun j => by unfold World.cell?; rw [he]
 have hf : ∀ j, w1.frozen? ⟨b, j, none⟩ = w.frozen? ⟨b, j, none⟩ := fun j => by unfold World.frozen?; rw [he]
 exact ⟨fun x y hx hy => by rw [hc, hc, hc]; exact h1 x y hx hy, fun j => by rw [hf]; exact h2 j, hs⟩
theorem TabAt.below {b : Nat} {t : Tab} {w w1 : World} (h : TabAt b t w) (hb : Below w.heap.size w w1) : TabAt b t w1 := h.heap (hb.block b h.2.2) (Nat.lt_of_lt_of_le h.2.2 hb.size)
theorem TabAt.alloc {b : Nat} {t : Tab} {w : World} (h : TabAt b t w) (o : Obj) : TabAt b t (w.alloc o) := h.below (below_alloc (Below.refl _ _) o)
theorem TabAt.drewN {b : Nat} {t : Tab} {w : World} (h : TabAt b t w) (m : Nat) : TabAt b t (w.drewN m) := h
theorem TabAt.drew {b : Nat} {t : Tab} {w : World} (h : TabAt b t w) : TabAt b t w.drew := h
theorem TabAt.put {b : Nat} {t : Tab} {w : World} (h : TabAt b t w) (x y : Nat) (hx : x < 49) (hy : y < 49) (v : Int) (s : Int × Int) :
  TabAt b (t.put x y v s) (((w.setCell ⟨b, x * 49 + y, none⟩ (.int .i64 v)).setCell ⟨b, 2401 + x * 98 + y * 2, none⟩ (.int .i64 s.1)).setCell ⟨b, 2401 + x * 98 + y * 2 + 1, none⟩ (.int .i64 s.2)) := by
 have ne : ∀ {i j : Nat}, i ≠ j → (⟨b, i, none⟩ : Addr) ≠ ⟨b, j, none⟩ := fun h e => h (by injection e)
 obtain ⟨h1, h2, h3⟩ := h
 obtain ⟨g1, g2, g3⟩ := h1 x y hx hy
 refine ⟨fun i j hi hj => ?_, fun j => by simp [h2], by simpa using h3⟩
 obtain ⟨k1, k2, k3⟩ := h1 i j hi hj
 by_cases e : i = x ∧ j = y
 ·obtain ⟨rfl, rfl⟩ := e
  refine ⟨?_, ?_, ?_⟩
  ·rw [World.cell?_setCell_other _ _ _ _ (ne (by omega)), World.cell?_setCell_other _ _ _ _ (ne (by omega)), World.cell?_setCell_same _ _ _ g1]
   simp [Tab.put]
  ·rw [World.cell?_setCell_other _ _ _ _ (ne (by omega)), World.cell?_setCell_same _ _ _ (u := .int .i64 (t.S i j).1) (by rw [World.cell?_setCell_other _ _ _ _ (ne (by omega))]; exact g2)]
   simp [Tab.put]
  ·rw [World.cell?_setCell_same _ _ _ (u := .int .i64 (t.S i j).2) (by rw [World.cell?_setCell_other _ _ _ _ (ne (by omega)), World.cell?_setCell_other _ _ _ _ (ne (by omega))]; exact g3)]
   simp [Tab.put]
 ·refine ⟨?_, ?_, ?_⟩
  ·rw [World.cell?_setCell_other _ _ _ _ (ne (by omega)), World.cell?_setCell_other _ _ _ _ (ne (by omega)), World.cell?_setCell_other _ _ _ _ (ne (by omega)), k1]
   simp [Tab.put, e]
  ·rw [World.cell?_setCell_other _ _ _ _ (ne (by omega)), World.cell?_setCell_other _ _ _ _ (ne (by omega)), World.cell?_setCell_other _ _ _ _ (ne (by omega)), k2]
   simp [Tab.put, e]
  ·rw [World.cell?_setCell_other _ _ _ _ (ne (by omega)), World.cell?_setCell_other _ _ _ _ (ne (by omega)), World.cell?_setCell_other _ _ _ _ (ne (by omega)), k3]
   simp [Tab.put, e]
set_option maxHeartbeats 4000000 in
set_option maxRecDepth 100000 in
theorem improve_no (b : Nat) (t : Tab) (x y : Nat) (v : Int) (s : Int × Int) (w : World) (hx : x < 49) (hy : y < 49) (h : TabAt b t w) (hv : ¬ t.T x y < v) :
  Calls Tryd.prog 34 #[.pointer (some ⟨b, 0, none⟩), .int .i64 x, .int .i64 y, .int .i64 v, .agg #[.int .i64 s.1, .int .i64 s.2]] w fun e w' => e = .returned (.tuple #[]) ∧ TabAt b (t.imp x y v s) w' ∧ Below b w w' := by
 have HT := hid h
 have c1 := (h.1 x y hx hy).1
 have hb := h.2.2
 have d1 : decide (t.T x y < v) = false := decide_eq_false hv
 have x0 : (0 : Int) ≤ (x : Int) := by omega
 have x1 : (x : Int) < 49 := by omega
 have y0 : (0 : Int) ≤ (y : Int) := by omega
 have y1 : (y : Int) < 49 := by omega
 have HI := hid (show t.imp x y v s = t by unfold Tab.imp; rw [if_neg hv])
 clear h hv
 go_enter Tryd.func34, Tryd.ntmps34
 go_wp2
 go_end0
 refine ⟨rfl, ?_, (Below.refl _ _).alloc (Nat.le_of_lt hb) _⟩
 rw [HI.out]
 exact HT.out.alloc _
set_option maxHeartbeats 4000000 in
set_option maxRecDepth 100000 in
theorem improve_yes (b : Nat) (t : Tab) (x y : Nat) (v : Int) (s : Int × Int) (w : World) (hx : x < 49) (hy : y < 49) (h : TabAt b t w) (hv : t.T x y < v) :
  Calls Tryd.prog 34 #[.pointer (some ⟨b, 0, none⟩), .int .i64 x, .int .i64 y, .int .i64 v, .agg #[.int .i64 s.1, .int .i64 s.2]] w fun e w' => e = .returned (.tuple #[]) ∧ TabAt b (t.imp x y v s) w' ∧ Below b w w' := by
 have HT := hid h
 obtain ⟨c1, c2, c3⟩ := h.1 x y hx hy
 have f1 := h.2.1 (x * 49 + y)
 have f2 := h.2.1 (2401 + x * 98 + y * 2)
 have f3 := h.2.1 (2401 + x * 98 + y * 2 + 1)
 have hb := h.2.2
 have d1 : decide (t.T x y < v) = true := decide_eq_true hv
 have x0 : (0 : Int) ≤ (x : Int) := by omega
 have x1 : (x : Int) < 49 := by omega
 have y0 : (0 : Int) ≤ (y : Int) := by omega
 have y1 : (y : Int) < 49 := by omega
 have HI := hid (show t.imp x y v s = t.put x y v s by unfold Tab.imp; rw [if_pos hv])
 clear h hv
 go_enter Tryd.func34, Tryd.ntmps34
 go_wp2
 go_region
 go_end0
 exact ⟨rfl, by rw [HI.out]; exact ((HT.out.put x y hx hy v s).alloc _).drew, by refine Below.drew (Below.alloc ?_ (by simp; omega) _); exact Below.setCell (p := ⟨b, 2401 + x * 98 + y * 2 + 1, none⟩) (Below.setCell (p := ⟨b, 2401 + x * 98 + y * 2, none⟩) (Below.setCell (p := ⟨b, x * 49 + y, none⟩) (Below.refl _ _) (Nat.le_refl _) _) (Nat.le_refl _) _) (Nat.le_refl _) _⟩
theorem improve_calls (b : Nat) (t : Tab) (x y : Nat) (v : Int) (s : Int × Int) (w : World) (hx : x < 49) (hy : y < 49) (h : TabAt b t w) :
  Calls Tryd.prog 34 #[.pointer (some ⟨b, 0, none⟩), .int .i64 x, .int .i64 y, .int .i64 v, .agg #[.int .i64 s.1, .int .i64 s.2]] w fun e w' => e = .returned (.tuple #[]) ∧ TabAt b (t.imp x y v s) w' ∧ Below b w w' := by
 by_cases hv : t.T x y < v
 ·exact improve_yes b t x y v s w hx hy h hv
 ·exact improve_no b t x y v s w hx hy h hv
end Go.Proofs.YtiioklboaookiaaDoor.Hand
namespace Go.Proofs.YtiioklboaookiaaDoor.Q
open Go.RowKit Go.Proofs.YtiioklboaookiaaDoorW.PrintWords Go.Proofs.YtiioklboaookiaaDoorW.PrintLast Go.Proofs.YtiioklboaookiaaDoor.Hand Go.Proofs.YtiioklboaookiaaDoorW.PrintMore
attribute [local go_sem] max2_int min2_int max_two min_two max_three min_three max_four min_four
set_option linter.unusedVariables false
set_option linter.unusedSimpArgs false
def fillB (x y : Nat) : List S34 → Nat → Tab → Tab
 | [], _, t => t
 | b :: l, k, t => fillB x y l (k + 1) (if b.f0 ≤ (x : Int) ∧ b.f1 ≤ (y : Int) then t.imp x y b.f2 (1, (k : Int)) else t)
def fillA (x y : Nat) : Nat → Nat → Tab → Tab
 | 0, _, t => t
 | m + 1, i, t => fillA x y m (i + 1) (t.imp x y (IntKind.i64.wrap (t.T i y + t.T (x - i) y)) (2, (i : Int)))
def fillL (x y : Nat) : Nat → Nat → Tab → Tab
 | 0, _, t => t
 | m + 1, i, t => fillL x y m (i + 1) (t.imp x y (IntKind.i64.wrap (t.T x i + t.T x (y - i))) (3, (i : Int)))
def fillH (l : List S34) (x : Nat) : Nat → Nat → Tab → Tab
 | 0, _, t => t
 | m + 1, y, t => fillH l x m (y + 1) (fillL x y (y - 1) 1 (fillA x y (x - 1) 1 (fillB x y l 0 t)))
def fillW (l : List S34) (H : Nat) : Nat → Nat → Tab → Tab
 | 0, _, t => t
 | m + 1, x, t => fillW l H m (x + 1) (fillH l x H 1 t)
def Tab.zero : Tab := ⟨fun _ _ => 0, fun _ _ => (0, 0)⟩
def fillT (l : List S34) (W H : Nat) : Tab := fillW l H W 1 Tab.zero
def tcells : Array Value := (List.replicate 7203 (Value.int .i64 0)).toArray
set_option maxRecDepth 100000 in
theorem zeroTab (w : World) : Sem.run Tryd.prog (zeroValue 76) w = .ok (.agg tcells) w := by kernel_rfl
theorem tcells_get (j : Nat) (h : j < 7203) : tcells[j]? = some (.int .i64 0) := by
 unfold tcells; rw [List.getElem?_toArray, List.getElem?_replicate, if_pos h]
theorem TabAt.start (w : World) : TabAt w.heap.size Tab.zero (w.alloc (.cells tcells 76)) := by
 refine ⟨fun x y hx hy => ?_, fun j => by simp, by simp⟩
 rw [World.cell?_alloc_new, World.cell?_alloc_new, World.cell?_alloc_new, tcells_get _ (by omega), tcells_get _ (by omega), tcells_get _ (by omega)]
 exact ⟨rfl, rfl, rfl⟩
theorem drop_B {l : List S34} (i : Nat) (hi : i < l.length) : l.drop i = rd_T34 l (i : Int) :: l.drop (i + 1) := by
 unfold rd_T34; rw [Int.toNat_natCast, List.getD_eq_getElem?_getD, List.getElem?_eq_getElem hi, List.drop_eq_getElem_cons hi]; rfl
def BoxT (b : Nat) (W H : Nat) (v : Value) (w : World) : Prop := w.heap[b]? = some (.cells #[.int .i64 W, .int .i64 H, v] 64 (0, 0))
theorem BoxT.below {b W H : Nat} {v : Value} {w w1 : World} (h : BoxT b W H v w) (hb : Below (b + 1) w w1) : BoxT b W H v w1 := (hb.block b (by omega)).trans h
theorem BoxT.cells {b W H : Nat} {v : Value} {w : World} (h : BoxT b W H v w) : w.cell? ⟨b, 0, none⟩ = some (.int .i64 W) ∧ w.cell? ⟨b, 1, none⟩ = some (.int .i64 H) ∧ w.cell? ⟨b, 2, none⟩ = some v := by
 unfold BoxT at h; simp [World.cell?, h]
structure FillAt (b : Nat) (W H : Nat) (v : Value) (t : Tab) (w0 w : World) : Prop where
 box : BoxT b W H v w
 tab : TabAt (b + 1) t w
 bel : Below b w0 w
 lt : b + 1 < w.heap.size
theorem FillAt.step {b W H : Nat} {v : Value} {t t' : Tab} {w0 w w1 : World} (h : FillAt b W H v t w0 w) (ht : TabAt (b + 1) t' w1) (hb : Below (b + 1) w w1) : FillAt b W H v t' w0 w1 :=
 ⟨h.box.below hb, ht, h.bel.trans (hb.mono (Nat.le_succ b)), ht.2.2⟩
theorem FillAt.more {b W H : Nat} {v : Value} {t : Tab} {w0 w w1 : World} (h : FillAt b W H v t w0 w) (hb : Below w.heap.size w w1) : FillAt b W H v t w0 w1 :=
 h.step (h.tab.below hb) (hb.mono (Nat.le_of_lt h.lt))
theorem FillAt.drewN {b W H : Nat} {v : Value} {t : Tab} {w0 w : World} (h : FillAt b W H v t w0 w) (m : Nat) : FillAt b W H v t w0 (w.drewN m) := h.more (pw_below_drewN (Below.refl _ _) m)
set_option maxHeartbeats 16000000 in
set_option maxRecDepth 100000 in
theorem fill_walk (W H : Nat) (A0 : Option Addr) (c0 : Nat) (l : List S34) (w : World) (hW : W < 49) (hH : H < 49) (hl : l.length ≤ 16) (hr : Kd.C k34 w A0 l.length l) :
  Calls Tryd.prog 18 #[.agg #[.int .i64 W, .int .i64 H, .slice A0 l.length c0]] w fun e w' => ∃ b, e = .returned (.pointer (some ⟨b, 0, none⟩)) ∧ w.heap.size ≤ b ∧ TabAt b (fillT l W H) w' ∧ Below w.heap.size w w' := by
 have HR := Aside0.mk hr
 clear hr
 have hz := zeroTab
 go_enter Tryd.func18, Tryd.ntmps18
 go_wp2
 clear hz
 obtain ⟨B, hB⟩ : ∃ B, B = w.heap.size := ⟨_, rfl⟩
 have HF0 : Aside0 (FillAt B W H (.slice A0 l.length c0) Tab.zero w ((w.alloc (.cells #[.int .i64 W, .int .i64 H, .slice A0 l.length c0] 64)).alloc (.cells tcells 76))) := by
  rw [hB]
  exact ⟨⟨blk_alloc (blk_new _ _) _, by rw [show w.heap.size + 1 = (w.alloc (.cells #[.int .i64 W, .int .i64 H, .slice A0 l.length c0] 64)).heap.size from by simp]; exact TabAt.start _, ((Below.refl _ _).alloc (Nat.le_refl _) _).alloc (by simp) _, by simp⟩⟩
 have HBW := hid hB
 rw [← hB]
 clear hB
 go_loopg [4] W (fun kq v4 w' => ∃ (x : Nat) (t : Tab), v4 = .int .i64 x ∧ x + kq = W + 1 ∧ 1 ≤ x ∧ Aside0 (fillW l H kq x t = fillT l W H) ∧ Aside0 (FillAt B W H (.slice A0 l.length c0) t w w'))
 case atStart => exact ⟨1, Tab.zero, rfl, by omega, by omega, ⟨rfl⟩, HF0⟩
 case round =>
  clear HF0
  obtain ⟨x, t, rfl, hx, hx1, HX, HF⟩ := hrel
  obtain ⟨c0_, c1_, c2_⟩ := HF.out.box.cells
  by_cases hlt : x ≤ W
  ·have d1 : decide ((x : Int) ≤ (W : Int)) = true := decide_eq_true (by omega)
   obtain ⟨gx, rfl⟩ : ∃ gx, gk = gx + 1 := ⟨gk - 1, by omega⟩
   go_wp2
   clear c0_ c1_ c2_
   go_loopg [5] H (fun kq v5 w' => ∃ (y : Nat) (t1 : Tab), v5 = .int .i64 y ∧ y + kq = H + 1 ∧ 1 ≤ y ∧ Aside0 (fillH l x kq y t1 = fillH l x H 1 t) ∧ Aside0 (FillAt B W H (.slice A0 l.length c0) t1 w w'))
   case atStart => exact ⟨1, t, rfl, by omega, by omega, ⟨rfl⟩, HF⟩
   case round =>
    clear HF
    obtain ⟨y, t1, rfl, hy, hy1, HY, HF⟩ := hrel
    obtain ⟨c0_, c1_, c2_⟩ := HF.out.box.cells
    by_cases hlty : y ≤ H
    ·have d2 : decide ((y : Int) ≤ (H : Int)) = true := decide_eq_true (by omega)
     obtain ⟨gy, rfl⟩ : ∃ gy, gk = gy + 1 := ⟨gk - 1, by omega⟩
     go_wp2
     clear c0_ c1_ c2_
     go_loopg [27] l.length (fun kq v27 w' => ∃ (k : Nat) (t2 : Tab), v27 = .int .i64 k ∧ k + kq = l.length ∧ Aside0 (fillB x y (l.drop k) k t2 = fillB x y l 0 t1) ∧ Aside0 (FillAt B W H (.slice A0 l.length c0) t2 w w'))
     case atStart => exact ⟨0, t1, rfl, by omega, ⟨rfl⟩, HF⟩
     case round =>
      clear HF
      obtain ⟨k, t2, rfl, hk, HK, HF⟩ := hrel
      by_cases hltk : k < l.length
      ·have d3 : decide ((k : Int) < (l.length : Int)) = true := decide_eq_true (by omega)
       obtain ⟨ad, e0, hx0, hx1, hx2⟩ := at_T34 HR.out (k : Int) (by omega) (by omega)
       rw [Int.toNat_natCast] at hx0 hx1 hx2
       replace hx0 := (HF.out.bel.cell (by rw [HBW.out]; exact World.block_lt_of_cell? w _ hx0)).trans hx0
       replace hx1 := (HF.out.bel.cell (by rw [HBW.out]; exact World.block_lt_of_cell? w _ hx1)).trans hx1
       replace hx2 := (HF.out.bel.cell (by rw [HBW.out]; exact World.block_lt_of_cell? w _ hx2)).trans hx2
       cases e0
       have hlt' : (k : Int) < (l.length : Int) := by omega
       have k0 : (0 : Int) ≤ (k : Int) := by omega
       have HDR := hid (drop_B k hltk)
       obtain ⟨bl, hbl⟩ : ∃ bl, bl = rd_T34 l (k : Int) := ⟨_, rfl⟩
       rw [← hbl] at hx0 hx1 hx2 HDR
       clear hbl
       have HK1 : Hid (fillB x y (l.drop (k + 1)) (k + 1) (if bl.f0 ≤ (x : Int) ∧ bl.f1 ≤ (y : Int) then t2.imp x y bl.f2 (1, (k : Int)) else t2) = fillB x y l 0 t1) := by
        show _ = _
        rw [← HK.out, HDR.out]; rfl
       by_cases b0 : bl.f0 ≤ (x : Int)
       ·have d4 : decide (bl.f0 ≤ (x : Int)) = true := decide_eq_true b0
        by_cases b1 : bl.f1 ≤ (y : Int)
        ·have d5 : decide (bl.f1 ≤ (y : Int)) = true := decide_eq_true b1
         have HK2 : Hid (fillB x y (l.drop (k + 1)) (k + 1) (t2.imp x y bl.f2 (1, (k : Int))) = fillB x y l 0 t1) := by
          have h := HK1.out
          rw [if_pos ⟨b0, b1⟩] at h
          exact h
         clear b0 b1 HK1
         go_wp2_with (fail)
         refine (improve_calls (B + 1) t2 x y bl.f2 (1, (k : Int)) _ (by omega) (by omega) (HF.out.tab.alloc _)).mono ?_
         rintro e w1 ⟨rfl, hT, hB⟩
         have HF1 : Aside0 (FillAt B W H (.slice (some ad) l.length c0) (t2.imp x y bl.f2 (1, (k : Int))) w w1) := ⟨(HF.out.more (below_alloc (Below.refl _ _) _)).step hT hB⟩
         clear hT hB
         try go_wp2
         go_roundg (l.length - (k + 1))
         case rel => exact ⟨k + 1, _, by go_num, by omega, ⟨HK2.out⟩, HF1⟩
         case measure => omega
        ·have d5 : decide (bl.f1 ≤ (y : Int)) = false := decide_eq_false b1
         have HK2 : Hid (fillB x y (l.drop (k + 1)) (k + 1) t2 = fillB x y l 0 t1) := by
          have h := HK1.out
          rw [if_neg (fun h => b1 h.2)] at h
          exact h
         clear b0 b1 HK1
         go_wp2
         go_roundg (l.length - (k + 1))
         case rel => exact ⟨k + 1, _, by go_num, by omega, ⟨HK2.out⟩, ⟨HF.out.more (by repeat (first | exact Below.refl _ _ | refine below_alloc ?_ _ | refine pw_below_drewN ?_ _ | refine below_drew1 ?_))⟩⟩
         case measure => omega
       ·have d4 : decide (bl.f0 ≤ (x : Int)) = false := decide_eq_false b0
        have HK2 : Hid (fillB x y (l.drop (k + 1)) (k + 1) t2 = fillB x y l 0 t1) := by
         have h := HK1.out
         rw [if_neg (fun h => b0 h.1)] at h
         exact h
        clear b0 HK1
        go_wp2
        go_roundg (l.length - (k + 1))
        case rel => exact ⟨k + 1, _, by go_num, by omega, ⟨HK2.out⟩, ⟨HF.out.more (by repeat (first | exact Below.refl _ _ | refine below_alloc ?_ _ | refine pw_below_drewN ?_ _ | refine below_drew1 ?_))⟩⟩
        case measure => omega
      ·have d3 : decide ((k : Int) < (l.length : Int)) = false := decide_eq_false (by omega)
       have HK2 : Hid (t2 = fillB x y l 0 t1) := by
        have h := HK.out
        rw [List.drop_eq_nil_of_le (by omega)] at h
        exact h
       clear HK
       go_wp2
       go_loopg [8] (x - 1) (fun kq v8 w' => ∃ (i : Nat) (t3 : Tab), v8 = .int .i64 i ∧ i + kq = x ∧ 1 ≤ i ∧ Aside0 (fillA x y kq i t3 = fillA x y (x - 1) 1 t2) ∧ Aside0 (FillAt B W H (.slice A0 l.length c0) t3 w w'))
       case atStart => exact ⟨1, t2, rfl, by omega, by omega, ⟨rfl⟩, HF⟩
       case round =>
        clear HF
        obtain ⟨i, t3, rfl, hi, hi1, HI, HF⟩ := hrel
        by_cases hlti : i < x
        ·have d4 : decide ((i : Int) < (x : Int)) = true := decide_eq_true (by omega)
         obtain ⟨gi, rfl⟩ : ∃ gi, gk = gi + 1 := ⟨gk - 1, by omega⟩
         have c1_ := (HF.out.tab.1 i y (by omega) (by omega)).1
         have c2_ := (HF.out.tab.1 (x - i) y (by omega) (by omega)).1
         have s0 : (0 : Int) ≤ (i : Int) := by omega
         have s1 : (i : Int) < 49 := by omega
         have s2 : (0 : Int) ≤ (y : Int) := by omega
         have s3 : (y : Int) < 49 := by omega
         have s4 : (0 : Int) ≤ (x : Int) - (i : Int) := by omega
         have s5 : (x : Int) - (i : Int) < 49 := by omega
         have s6 : ((x : Int) - (i : Int)).toNat = x - i := by omega
         have s7 : IntKind.i64.wrap ((x : Int) - (i : Int)) = (x : Int) - (i : Int) := IntWalk.i64_in _ (by omega)
         go_wp2
         go_region_with (go_at_call 34; refine (improve_calls (B + 1) t3 x y _ (2, (i : Int)) _ (by omega) (by omega) HF.out.tab.drew).mono ?_; rintro e w1 ⟨rfl, hT, hB⟩; have HF1 : Aside0 (FillAt B W H (.slice A0 l.length c0) (t3.imp x y (IntKind.i64.wrap (t3.T i y + t3.T (x - i) y)) (2, (i : Int))) w w1) := ⟨(HF.out.more (below_drew1 (Below.refl _ _))).step hT hB⟩; clear hT hB)
         all_goals
          clear c1_ c2_
          try go_wp2
          go_roundg gi
          case rel => exact ⟨i + 1, _, by go_num, by omega, by omega, HI, HF1⟩
          case measure => omega
        ·have d4 : decide ((i : Int) < (x : Int)) = false := decide_eq_false (by omega)
         obtain rfl : gk = 0 := by omega
         have HI2 : Hid (t3 = fillA x y (x - 1) 1 t2) := HI.out
         clear HI
         go_wp2
         go_loopg [9] (y - 1) (fun kq v9 w' => ∃ (i : Nat) (t4 : Tab), v9 = .int .i64 i ∧ i + kq = y ∧ 1 ≤ i ∧ Aside0 (fillL x y kq i t4 = fillL x y (y - 1) 1 t3) ∧ Aside0 (FillAt B W H (.slice A0 l.length c0) t4 w w'))
         case atStart => exact ⟨1, t3, rfl, by omega, by omega, ⟨rfl⟩, HF⟩
         case round =>
          clear HF
          obtain ⟨j, t4, rfl, hj, hj1, HJ, HF⟩ := hrel
          by_cases hltj : j < y
          ·have d5 : decide ((j : Int) < (y : Int)) = true := decide_eq_true (by omega)
           obtain ⟨gj, rfl⟩ : ∃ gj, gk = gj + 1 := ⟨gk - 1, by omega⟩
           have c1_ := (HF.out.tab.1 x j (by omega) (by omega)).1
           have c2_ := (HF.out.tab.1 x (y - j) (by omega) (by omega)).1
           have s0 : (0 : Int) ≤ (j : Int) := by omega
           have s1 : (j : Int) < 49 := by omega
           have s2 : (0 : Int) ≤ (x : Int) := by omega
           have s3 : (x : Int) < 49 := by omega
           have s4 : (0 : Int) ≤ (y : Int) - (j : Int) := by omega
           have s5 : (y : Int) - (j : Int) < 49 := by omega
           have s6 : ((y : Int) - (j : Int)).toNat = y - j := by omega
           have s7 : IntKind.i64.wrap ((y : Int) - (j : Int)) = (y : Int) - (j : Int) := IntWalk.i64_in _ (by omega)
           go_wp2
           go_region_with (go_at_call 34; refine (improve_calls (B + 1) t4 x y _ (3, (j : Int)) _ (by omega) (by omega) HF.out.tab.drew).mono ?_; rintro e w1 ⟨rfl, hT, hB⟩; have HF1 : Aside0 (FillAt B W H (.slice A0 l.length c0) (t4.imp x y (IntKind.i64.wrap (t4.T x j + t4.T x (y - j))) (3, (j : Int))) w w1) := ⟨(HF.out.more (below_drew1 (Below.refl _ _))).step hT hB⟩; clear hT hB)
           all_goals
            clear c1_ c2_
            try go_wp2
            go_roundg gj
            case rel => exact ⟨j + 1, _, by go_num, by omega, by omega, HJ, HF1⟩
            case measure => omega
          ·have d5 : decide ((j : Int) < (y : Int)) = false := decide_eq_false (by omega)
           obtain rfl : gk = 0 := by omega
           have HJ2 : Hid (t4 = fillL x y (y - 1) 1 t3) := HJ.out
           clear HJ
           go_wp2
           go_roundg gy
           case rel =>
            refine ⟨y + 1, t4, by go_num, by omega, by omega, ⟨?_⟩, HF⟩
            rw [HJ2.out, HI2.out, HK2.out]
            exact HY.out
           case measure => omega
    ·have d2 : decide ((y : Int) ≤ (H : Int)) = false := decide_eq_false (by omega)
     obtain rfl : gk = 0 := by omega
     have HY2 : Hid (t1 = fillH l x H 1 t) := HY.out
     clear HY
     go_wp2
     go_roundg gx
     case rel =>
      refine ⟨x + 1, t1, by go_num, by omega, by omega, ⟨?_⟩, HF⟩
      rw [HY2.out]
      exact HX.out
     case measure => omega
  ·have d1 : decide ((x : Int) ≤ (W : Int)) = false := decide_eq_false (by omega)
   obtain rfl : gk = 0 := by omega
   go_wp2
   go_ret
   exact ⟨_, rfl, by rw [← HBW.out]; omega, by rw [← HX.out]; exact HF.out.tab, by rw [← HBW.out]; exact HF.out.bel⟩
end Go.Proofs.YtiioklboaookiaaDoor.Q
namespace Go.Proofs.YtiioklboaookiaaDoor.Q
open Go.RowKit Go.Proofs.YtiioklboaookiaaDoorW.PrintWords Go.Proofs.YtiioklboaookiaaDoorW.PrintLast Go.Proofs.YtiioklboaookiaaDoor.Hand Go.Proofs.YtiioklboaookiaaDoorW.PrintMore
attribute [local go_sem] max2_int min2_int max_two min_two max_three min_three max_four min_four
set_option linter.unusedVariables false
set_option linter.unusedSimpArgs false
theorem within_yes {a lo hi : Int} (h1 : lo ≤ a) (h2 : a ≤ hi) (w : World) : Calls Tryd.prog 33 #[.int .i64 a, .int .i64 lo, .int .i64 hi] w fun e w' => e = .returned (.bool true) ∧ Drawn0 w w' :=
 carve_within.calls a lo hi true w (by unfold carve_within.f; rw [if_pos h1, decide_eq_true h2])
def blankOk (b : S34) : Bool := decide (1 ≤ b.f0 ∧ b.f0 ≤ 48 ∧ 1 ≤ b.f1 ∧ b.f1 ≤ 48 ∧ 0 ≤ b.f2 ∧ b.f2 ≤ 1048576)
theorem rd_mem {l : List S34} (i : Nat) (hi : i < l.length) : rd_T34 l (i : Int) ∈ l := by
 unfold rd_T34; rw [Int.toNat_natCast, List.getD_eq_getElem?_getD, List.getElem?_eq_getElem hi]; exact List.getElem_mem hi
set_option maxHeartbeats 8000000 in
set_option maxRecDepth 100000 in
theorem newTask_walk (W H : Nat) (A0 : Option Addr) (c0 : Nat) (l : List S34) (w : World) (hW0 : 1 ≤ W) (hW : W < 49) (hH0 : 1 ≤ H) (hH : H < 49) (hl : l.length ≤ 16) (hr : Kd.C k34 w A0 l.length l) (hv : ∀ x, x ∈ l → blankOk x = true) :
  Calls Tryd.prog 17 #[.int .i64 W, .int .i64 H, .slice A0 l.length c0] w fun e w' => e = .returned (.tuple #[.agg #[.int .i64 W, .int .i64 H, .slice A0 l.length c0], .int .i64 0]) ∧ Below w.heap.size w w' := by
 have HR := Aside0.mk hr
 have HV := hid hv
 clear hr hv
 have d1 : decide ((16 : Int) < (l.length : Int)) = false := decide_eq_false (by omega)
 go_enter Tryd.func17, Tryd.ntmps17
 go_wp2_with (fail)
 refine (within_yes (a := (W : Int)) (by omega) (by omega) _).mono ?_
 rintro e w1 ⟨rfl, ⟨n1, rfl⟩⟩
 go_wp2_with (fail)
 refine (within_yes (a := (H : Int)) (by omega) (by omega) _).mono ?_
 rintro e w1 ⟨rfl, ⟨n2, rfl⟩⟩
 go_wp2_with (fail)
 have HB0 := Aside0.mk (show Below w.heap.size w (((w.alloc (.cells #[.int .i64 0, .int .i64 0, .slice none 0 0] 64)).drewN n1).drewN n2) from by repeat (first | exact Below.refl _ _ | refine below_alloc ?_ _ | refine pw_below_drewN ?_ _))
 have HC0 := Aside0.mk (show (((w.alloc (.cells #[.int .i64 0, .int .i64 0, .slice none 0 0] 64)).drewN n1).drewN n2).heap[w.heap.size]? = some (.cells #[.int .i64 0, .int .i64 0, .slice none 0 0] 64 (0, 0)) from blk_new _ _)
 go_loopg [26] l.length (fun kq v26 w' => ∃ (k : Nat), v26 = .int .i64 k ∧ k + kq = l.length ∧ Aside0 (w'.heap[w.heap.size]? = some (.cells #[.int .i64 0, .int .i64 0, .slice none 0 0] 64 (0, 0))) ∧ Aside0 (Below w.heap.size w w'))
 case atStart => exact ⟨0, rfl, by omega, by simpa using HC0, by simpa using HB0⟩
 case round =>
  clear HB0 HC0
  obtain ⟨k, rfl, hk, HC, HB⟩ := hrel
  by_cases hlt : k < l.length
  ·have d2 : decide ((k : Int) < (l.length : Int)) = true := decide_eq_true (by omega)
   obtain ⟨ad, e0, hx0, hx1, hx2⟩ := at_T34 HR.out (k : Int) (by omega) (by omega)
   rw [Int.toNat_natCast] at hx0 hx1 hx2
   replace hx0 := (HB.out.cell (World.block_lt_of_cell? w _ hx0)).trans hx0
   replace hx1 := (HB.out.cell (World.block_lt_of_cell? w _ hx1)).trans hx1
   replace hx2 := (HB.out.cell (World.block_lt_of_cell? w _ hx2)).trans hx2
   cases e0
   have hlt' : (k : Int) < (l.length : Int) := by omega
   have k0 : (0 : Int) ≤ (k : Int) := by omega
   obtain ⟨b1, b2, b3, b4, b5, b6⟩ := of_decide_eq_true (HV.out _ (rd_mem k hlt))
   obtain ⟨bl, hbl⟩ : ∃ bl, bl = rd_T34 l (k : Int) := ⟨_, rfl⟩
   rw [← hbl] at hx0 hx1 hx2 b1 b2 b3 b4 b5 b6
   clear hbl
   go_wp2_with (fail)
   refine (within_yes (a := bl.f0) b1 b2 _).mono ?_
   rintro e w1 ⟨rfl, ⟨m1, rfl⟩⟩
   go_wp2_with (fail)
   refine (within_yes (a := bl.f1) b3 b4 _).mono ?_
   rintro e w1 ⟨rfl, ⟨m2, rfl⟩⟩
   go_wp2_with (fail)
   refine (within_yes (a := bl.f2) b5 b6 _).mono ?_
   rintro e w1 ⟨rfl, ⟨m3, rfl⟩⟩
   go_wp2_with (fail)
   go_roundg (l.length - (k + 1))
   case rel =>
    refine ⟨k + 1, by go_num, by omega, ⟨?_⟩, ⟨by repeat (first | exact HB.out | refine below_alloc ?_ _ | refine pw_below_drewN ?_ _)⟩⟩
    exact blk_alloc HC.out _
   case measure => omega
  ·have d2 : decide ((k : Int) < (l.length : Int)) = false := decide_eq_false (by omega)
   have q0 : wr.cell? ⟨w.heap.size, 0, none⟩ = some (.int .i64 0) := by simp [World.cell?, HC.out]
   have q1 : wr.cell? ⟨w.heap.size, 1, none⟩ = some (.int .i64 0) := by simp [World.cell?, HC.out]
   have q2 : wr.cell? ⟨w.heap.size, 2, none⟩ = some (.slice none 0 0) := by simp [World.cell?, HC.out]
   have r0 : ∀ j, wr.frozen? ⟨w.heap.size, j, none⟩ = false := fun j => by simp [World.frozen?, HC.out]
   go_wp2_with (fail)
   refine bodyPost_ret (results_ct rfl _ _ w.heap.size 64 #[.int .i64 W, .int .i64 H, .slice A0 l.length c0] (0, 0) _ rfl ?_ Tryd.underlying64 rfl (by kernel_rfl)) rfl ?_
   ·refine blk_put (cs := #[.int .i64 W, .int .i64 H, .slice none 0 0]) ?_ 2 _ rfl
    refine blk_put (cs := #[.int .i64 W, .int .i64 0, .slice none 0 0]) ?_ 1 _ rfl
    exact blk_put (cs := #[.int .i64 0, .int .i64 0, .slice none 0 0]) HC.out 0 _ rfl
   ·exact ⟨rfl, Below.setCell (p := ⟨w.heap.size, 2, none⟩) (Below.setCell (p := ⟨w.heap.size, 1, none⟩) (Below.setCell (p := ⟨w.heap.size, 0, none⟩) HB.out (Nat.le_refl _) _) (Nat.le_refl _) _) (Nat.le_refl _) _⟩
def planF (t : Tab) : Nat → Nat → Nat → Option (List S72)
 | 0, _, _ => none
 | k + 1, x, y =>
  if (t.S x y).1 = 2 then (if 1 ≤ (t.S x y).2 ∧ (t.S x y).2 < (x : Int) then (planF t k (t.S x y).2.toNat y).bind fun p => (planF t k (x - (t.S x y).2.toNat) y).bind fun q =>
   (if p.length + q.length < 100000 then some (⟨2, (t.S x y).2⟩ :: (p ++ q)) else none) else none) else
  if (t.S x y).1 = 3 then (if 1 ≤ (t.S x y).2 ∧ (t.S x y).2 < (y : Int) then (planF t k x (t.S x y).2.toNat).bind fun p => (planF t k x (y - (t.S x y).2.toNat)).bind fun q =>
   (if p.length + q.length < 100000 then some (⟨3, (t.S x y).2⟩ :: (p ++ q)) else none) else none) else
  some [⟨(t.S x y).1, (t.S x y).2⟩]
theorem steps_none (a b : Int) : carve_steps.f 1 a b [] = some [⟨a, b⟩] := rfl
theorem steps_two (a b : Int) (p q : List S72) (h : p.length + q.length < 100000) : carve_steps.f 3 a b [p, q] = some (⟨a, b⟩ :: (p ++ q)) := by
 unfold carve_steps.f
 have e0 : rd_L3 [p, q] 0 = p := rfl
 have e1 : rd_L3 [p, q] 1 = q := rfl
 have w1 : wrap64 (0 + 1) = 1 := w64_in _ (by omega) (by omega)
 have w2 : wrap64 (1 + 1) = 2 := w64_in _ (by omega) (by omega)
 simp only [carve_steps.l0, List.length_cons, List.length_nil]
 rw [if_pos (by decide), if_pos (by decide), if_pos (by decide), e0, w1, if_pos (by simp; omega), if_pos (by decide), if_pos (by decide), if_pos (by decide), e1, w2, if_pos (by simp; omega), if_neg (by decide)]
 simp
theorem two_C {w : World} {g : Nat} {A1 A2 : Option Addr} {c1 c2 : Nat} {p q : List S72} (h1 : w.cell? ⟨g, 0, none⟩ = some (.slice A1 p.length c1)) (h2 : w.cell? ⟨g, 1, none⟩ = some (.slice A2 q.length c2)) (l1 : p.length ≤ c1) (l2 : q.length ≤ c2)
  (r1 : Kd.C k72 w A1 p.length p) (r2 : Kd.C k72 w A2 q.length q) : Kd.C (Kd.slice 72 k72) w (some ⟨g, 0, none⟩) 2 [p, q] := by
 refine ⟨rfl, by omega, fun _ => ⟨_, rfl, fun j s hj => ?_⟩⟩
 match j with
 | 0 =>
  obtain rfl := Option.some.inj (show some p = some s from hj)
  refine ⟨[.slice A1 p.length c1], rfl, ⟨A1, c1, rfl, l1, r1⟩, fun i u hu => ?_⟩
  match i with
  | 0 => obtain rfl := Option.some.inj (show some _ = some u from hu); exact h1
  | i + 1 => simp at hu
 | 1 =>
  obtain rfl := Option.some.inj (show some q = some s from hj)
  refine ⟨[.slice A2 q.length c2], rfl, ⟨A2, c2, rfl, l2, r2⟩, fun i u hu => ?_⟩
  match i with
  | 0 => obtain rfl := Option.some.inj (show some _ = some u from hu); exact h2
  | i + 1 => simp at hu
 | j + 2 => simp at hj
set_option maxHeartbeats 8000000 in
set_option maxRecDepth 100000 in
theorem plan_leaf (b : Nat) (t : Tab) (x y : Nat) (w : World) (hx : x < 49) (hy : y < 49) (h : TabAt b t w) (h2 : (t.S x y).1 ≠ 2) (h3 : (t.S x y).1 ≠ 3) :
  Calls Tryd.prog 19 #[.pointer (some ⟨b, 0, none⟩), .int .i64 x, .int .i64 y] w fun e w' => ∃ v, e = .returned v ∧ Kd.R k72 72 w' w.heap.size (fun _ => True) v [⟨(t.S x y).1, (t.S x y).2⟩] ∧ Below w.heap.size w w' := by
 obtain ⟨_, c2, c3⟩ := h.1 x y hx hy
 have hb := h.2.2
 have x0 : (0 : Int) ≤ (x : Int) := by omega
 have x1 : (x : Int) < 49 := by omega
 have y0 : (0 : Int) ≤ (y : Int) := by omega
 have y1 : (y : Int) < 49 := by omega
 obtain ⟨K, hK⟩ : ∃ K, K = (t.S x y).1 := ⟨_, rfl⟩
 obtain ⟨a, ha⟩ : ∃ a, a = (t.S x y).2 := ⟨_, rfl⟩
 rw [← hK] at c2 h2 h3 ⊢
 rw [← ha] at c3 ⊢
 clear hK ha h
 have t1 : (K == 2) = false := beq_eq_false_iff_ne.2 h2
 have t2 : (K == 3) = false := beq_eq_false_iff_ne.2 h3
 clear h2 h3
 go_enter Tryd.func19, Tryd.ntmps19
 go_wp2_with (fail)
 refine (carve_steps.calls 1 K a none 0 [] _ _ (Kd.C_nil _ _) (Nat.le_refl _) (steps_none K a)).mono ?_
 rintro e w1 ⟨v, rfl, ho, hB⟩
 have HO := Aside0.mk ho
 have HB := Aside0.mk hB
 clear ho hB
 go_wp2_with (fail)
 go_ret
 exact ⟨_, rfl, Kd.R_lower HO.out (by simp), (below_alloc (Below.refl _ _) _).trans (HB.out.mono (by simp))⟩
set_option maxHeartbeats 8000000 in
set_option maxRecDepth 100000 in
theorem plan_across (b : Nat) (t : Tab) (x y : Nat) (w : World) (a : Nat) (p q : List S72) (hx : x < 49) (hy : y < 49) (h : TabAt b t w) (h2 : (t.S x y).1 = 2) (ha : (t.S x y).2 = (a : Int)) (ha1 : 1 ≤ a) (hax : a < x) (hpq : p.length + q.length < 100000)
  (ihp : ∀ w, TabAt b t w → Calls Tryd.prog 19 #[.pointer (some ⟨b, 0, none⟩), .int .i64 a, .int .i64 y] w fun e w' => ∃ v, e = .returned v ∧ Kd.R k72 72 w' w.heap.size (fun _ => True) v p ∧ Below w.heap.size w w')
  (ihq : ∀ w, TabAt b t w → Calls Tryd.prog 19 #[.pointer (some ⟨b, 0, none⟩), .int .i64 ((x - a : Nat) : Int), .int .i64 y] w fun e w' => ∃ v, e = .returned v ∧ Kd.R k72 72 w' w.heap.size (fun _ => True) v q ∧ Below w.heap.size w w') :
  Calls Tryd.prog 19 #[.pointer (some ⟨b, 0, none⟩), .int .i64 x, .int .i64 y] w fun e w' => ∃ v, e = .returned v ∧ Kd.R k72 72 w' w.heap.size (fun _ => True) v (⟨2, (a : Int)⟩ :: (p ++ q)) ∧ Below w.heap.size w w' := by
 obtain ⟨_, c2, c3⟩ := h.1 x y hx hy
 have HT := hid h
 have hb := h.2.2
 rw [h2] at c2
 rw [ha] at c3
 clear h h2 ha
 have x0 : (0 : Int) ≤ (x : Int) := by omega
 have x1 : (x : Int) < 49 := by omega
 have y0 : (0 : Int) ≤ (y : Int) := by omega
 have y1 : (y : Int) < 49 := by omega
 have s7 : IntKind.i64.wrap ((x : Int) - (a : Int)) = ((x - a : Nat) : Int) := by rw [IntWalk.i64_in _ (by omega)]; omega
 have IHP := hid ihp
 have IHQ := hid ihq
 clear ihp ihq
 go_enter Tryd.func19, Tryd.ntmps19
 go_wp2_with (fail)
 refine start_ (n := 16) (S := fun w' => w'.cell? ⟨w.heap.size, 0, none⟩ = some (.int .i64 2) ∧ w'.cell? ⟨w.heap.size, 1, none⟩ = some (.int .i64 (a : Int))) (ds := []) #[false, false, false, false, false, false, false, false, false, false, false, false, false, false, false, false] (by kernel_rfl) rfl rfl ⟨by simp [World.cell?_alloc_new], by simp [World.cell?_alloc_new]⟩ (fun hHeld => ?_)
 refine pure_ (i := 1) (N := some 23) (v := ?_) (a' := ?_) #[false, true, false, false, false, false, false, false, false, false, false, false, false, false, false, false] rfl rfl (by kernel_rfl) (fun _ _ _ h => h) (Or.inl ⟨by rfl, ?_⟩) ?_ ?_
 rotate_left
 ·intro w'
  go_simp
  with_reducible rfl
 rotate_left
 ·simp only [Act.put, List.setIfInBounds_toArray, List.set_cons_zero, List.set_cons_succ, i64_w, i32_w]
  rfl
 refine pure_ (i := 2) (N := some 24) (v := ?_) (a' := ?_) #[false, true, true, false, false, false, false, false, false, false, false, false, false, false, false, false] rfl rfl (by kernel_rfl) (fun _ _ _ h => h) (Or.inl ⟨by rfl, ?_⟩) ?_ ?_
 rotate_left
 ·intro w'
  go_simp
  with_reducible rfl
 rotate_left
 ·simp only [Act.put, List.setIfInBounds_toArray, List.set_cons_zero, List.set_cons_succ, i64_w, i32_w]
  rfl
 refine pure_ (i := 4) (N := some 26) (v := ?_) (a' := ?_) #[false, true, true, false, true, false, false, false, false, false, false, false, false, false, false, false] rfl rfl (by kernel_rfl) (fun _ _ _ h => h) (Or.inl ⟨by rfl, ?_⟩) ?_ ?_
 rotate_left
 ·intro w'
  go_simp
  with_reducible rfl
 rotate_left
 ·simp only [Act.put, List.setIfInBounds_toArray, List.set_cons_zero, List.set_cons_succ, i64_w, i32_w]
  rfl
 refine pure_ (i := 6) (N := some 28) (v := ?_) (a' := ?_) #[false, true, true, false, true, false, true, false, false, false, false, false, false, false, false, false] rfl rfl (by kernel_rfl) (fun _ _ _ h => h) (Or.inl ⟨by rfl, ?_⟩) ?_ ?_
 rotate_left
 ·intro w'
  go_simp
  with_reducible rfl
 rotate_left
 ·simp only [Act.put, List.setIfInBounds_toArray, List.set_cons_zero, List.set_cons_succ, i64_w, i32_w]
  rfl
 refine pure_ (i := 7) (N := some 29) (v := ?_) (a' := ?_) #[false, true, true, false, true, false, true, true, false, false, false, false, false, false, false, false] rfl rfl (by kernel_rfl) (fun _ _ _ h => h) (Or.inl ⟨by rfl, ?_⟩) ?_ ?_
 rotate_left
 ·intro w'
  go_simp
  with_reducible rfl
 rotate_left
 ·simp only [Act.put, List.setIfInBounds_toArray, List.set_cons_zero, List.set_cons_succ, i64_w, i32_w]
  rfl
 refine pure_ (i := 8) (N := some 30) (v := ?_) (a' := ?_) #[false, true, true, false, true, false, true, true, true, false, false, false, false, false, false, false] rfl rfl (by kernel_rfl) (fun _ _ _ h => h) (Or.inl ⟨by rfl, ?_⟩) ?_ ?_
 rotate_left
 ·intro w'
  go_simp
  with_reducible rfl
 rotate_left
 ·simp only [Act.put, List.setIfInBounds_toArray, List.set_cons_zero, List.set_cons_succ, i64_w, i32_w]
  rfl
 refine pure_ (i := 11) (N := some 33) (v := ?_) (a' := ?_) #[false, true, true, false, true, false, true, true, true, false, false, true, false, false, false, false] rfl rfl (by kernel_rfl) (fun _ _ _ h => h) (Or.inl ⟨by rfl, ?_⟩) ?_ ?_
 rotate_left
 ·intro w'
  go_simp
  with_reducible rfl
 rotate_left
 ·simp only [Act.put, List.setIfInBounds_toArray, List.set_cons_zero, List.set_cons_succ, i64_w, i32_w]
  rfl
 refine take_ (i := 0) (N := some 22) (v := ?_) (a' := ?_) #[true, true, true, false, true, false, true, true, true, false, false, true, false, false, false, false] rfl rfl (by kernel_rfl) (fun _ _ _ h => h) (Or.inl ⟨by rfl, ?_⟩) hHeld ?_ ?_
 rotate_left
 ·rintro w' ⟨s0, s1⟩
  go_simp
  with_reducible rfl
 rotate_left
 ·simp only [Act.put, List.setIfInBounds_toArray, List.set_cons_zero, List.set_cons_succ, i64_w, i32_w]
  rfl
 refine take_ (i := 3) (N := some 25) (v := ?_) (a' := ?_) #[true, true, true, true, true, false, true, true, true, false, false, true, false, false, false, false] rfl rfl (by kernel_rfl) (fun _ _ _ h => h) (Or.inl ⟨by rfl, ?_⟩) hHeld ?_ ?_
 rotate_left
 ·rintro w' ⟨s0, s1⟩
  go_simp
  with_reducible rfl
 rotate_left
 ·simp only [Act.put, List.setIfInBounds_toArray, List.set_cons_zero, List.set_cons_succ, i64_w, i32_w]
  rfl
 refine take_ (i := 9) (N := some 31) (v := ?_) (a' := ?_) #[true, true, true, true, true, false, true, true, true, true, false, true, false, false, false, false] rfl rfl (by kernel_rfl) (fun _ _ _ h => h) (Or.inl ⟨by rfl, ?_⟩) hHeld ?_ ?_
 rotate_left
 ·rintro w' ⟨s0, s1⟩
  go_simp
  with_reducible rfl
 rotate_left
 ·simp only [Act.put, List.setIfInBounds_toArray, List.set_cons_zero, List.set_cons_succ, i64_w, i32_w]
  rfl
 refine pure_ (i := 10) (N := some 32) (v := ?_) (a' := ?_) #[true, true, true, true, true, false, true, true, true, true, true, true, false, false, false, false] rfl rfl (by kernel_rfl) (fun _ _ _ h => h) (Or.inl ⟨by rfl, ?_⟩) ?_ ?_
 rotate_left
 ·intro w'
  go_simp
  with_reducible rfl
 rotate_left
 ·simp only [Act.put, List.setIfInBounds_toArray, List.set_cons_zero, List.set_cons_succ, i64_w, i32_w]
  rfl
 refine one_ (i := 5) (N := some 27) #[true, true, true, true, true, true, true, true, true, true, true, true, false, false, false, false] rfl rfl (by kernel_rfl) (by decide) (fun K hK => ?_)
 refine goes_ Tryd.func19 (by kernel_rfl) rfl #[.pointer (some ⟨b, 0, none⟩), .int .i64 (a : Int), .int .i64 (y : Int)] (by rfl) rfl rfl (by (try simp only [List.map_toArray, List.map_cons, List.map_nil]); first | done | rfl) ?_
 refine (IHP.out _ (HT.out.alloc _).drew).mono ?_
 rintro e w1 ⟨v1, rfl, ho, hB⟩
 obtain ⟨A1, k1, eR⟩ := Kd.R_slice ho
 subst eR
 have HO1 := Aside0.mk ho
 have HB1 := Aside0.mk hB
 have HT1 := hid ((HT.out.alloc _).drew.below hB)
 have g0 := (hB.cell (p := ⟨w.heap.size, 0, none⟩) (by simp)).trans (show _ = some (.int .i64 2) from by simp [World.cell?_alloc_new])
 have g1 := (hB.cell (p := ⟨w.heap.size, 1, none⟩) (by simp)).trans (show _ = some (.int .i64 (a : Int)) from by simp [World.cell?_alloc_new])
 clear ho hB
 refine ⟨_, rfl, ?_⟩
 refine hK.out _ _ ⟨g0, g1⟩ (fun hHeld => ?_)
 clear hK K
 refine norm_ (a' := ?_) ?_ ?_
 rotate_left
 ·show Act.put _ (some 27) _ = _
  simp only [Act.put, List.setIfInBounds_toArray, List.set_cons_zero, List.set_cons_succ, i64_w, i32_w]
  rfl
 refine one_ (i := 12) (N := some 34) #[true, true, true, true, true, true, true, true, true, true, true, true, true, false, false, false] rfl rfl (by kernel_rfl) (by decide) (fun K hK => ?_)
 refine goes_ Tryd.func19 (by kernel_rfl) rfl #[.pointer (some ⟨b, 0, none⟩), .int .i64 ((x - a : Nat) : Int), .int .i64 (y : Int)] (by rfl) rfl rfl (by (try simp only [List.map_toArray, List.map_cons, List.map_nil]); first | done | rfl) ?_
 refine (IHQ.out _ HT1.out).mono ?_
 rintro e w2 ⟨v2, rfl, ho, hB⟩
 obtain ⟨A2, k2, eR⟩ := Kd.R_slice ho
 subst eR
 have HO2 := Aside0.mk ho
 have HB2 := Aside0.mk hB
 have hn2 : w.heap.size < w2.heap.size := by have := HB1.out.size; have := HB2.out.size; simp at *; omega
 have g2 := (hB.cell (p := ⟨w.heap.size, 0, none⟩) (by have := HB1.out.size; simp at this ⊢; omega)).trans g0
 have g3 := (hB.cell (p := ⟨w.heap.size, 1, none⟩) (by have := HB1.out.size; simp at this ⊢; omega)).trans g1
 clear ho hB
 refine ⟨_, rfl, ?_⟩
 refine hK.out _ _ ⟨g2, g3⟩ (fun hHeld => ?_)
 clear hK K
 refine norm_ (a' := ?_) ?_ ?_
 rotate_left
 ·show Act.put _ (some 34) _ = _
  simp only [Act.put, List.setIfInBounds_toArray, List.set_cons_zero, List.set_cons_succ, i64_w, i32_w]
  rfl
 refine one_ (i := 13) (N := some 35) #[true, true, true, true, true, true, true, true, true, true, true, true, true, true, false, false] rfl rfl (by kernel_rfl) (by decide) (fun K hK => ?_)
 refine value_ (w1 := ?_) (v := ?_) (by rfl) rfl ?_ ?_
 rotate_left 2
 ·go_simp
  first | (refine ⟨?_, ?_⟩ <;> rfl) | rfl
 refine hK.out _ _ ⟨by rw [World.cell?_alloc_old _ _ _ (Nat.ne_of_lt hn2)]; exact g2, by rw [World.cell?_alloc_old _ _ _ (Nat.ne_of_lt hn2)]; exact g3⟩ (fun hHeld => ?_)
 clear hK K
 refine norm_ (a' := ?_) ?_ ?_
 rotate_left
 ·show Act.put _ (some 35) _ = _
  simp only [Act.put, List.setIfInBounds_toArray, List.set_cons_zero, List.set_cons_succ, i64_w, i32_w]
  rfl
 refine one_ (i := 14) (N := some 36) #[true, true, true, true, true, true, true, true, true, true, true, true, true, true, true, false] rfl rfl (by kernel_rfl) (by decide) (fun K hK => ?_)
 refine goes_ Tryd.func35 (by kernel_rfl) rfl #[.agg #[.int .i64 2, .int .i64 (a : Int)], .slice (some ⟨w2.heap.size, 0, none⟩) 2 2] (by rfl) rfl rfl (by (try simp only [List.map_toArray, List.map_cons, List.map_nil]); first | done | rfl) ?_
 refine (carve_steps.calls 3 2 (a : Int) (some ⟨w2.heap.size, 0, none⟩) 2 [p, q] _ _ (two_C (by simp [World.cell?_alloc_new]) (by simp [World.cell?_alloc_new]) (Kd.R_reads' HO1.out).2.1 (Kd.R_reads' HO2.out).2.1 (Kd.C_below (Kd.C_below (Kd.R_reads' HO1.out).2.2 HB2.out) (below_alloc (Below.refl _ _) _)) (Kd.C_below (Kd.R_reads' HO2.out).2.2 (below_alloc (Below.refl _ _) _))) (Nat.le_refl _) (steps_two 2 (a : Int) p q hpq)).mono ?_
 rintro e w3 ⟨v3, rfl, ho, hB⟩
 have HO3 := Aside0.mk ho
 have HB3 := Aside0.mk hB
 have g4 := (hB.cell (p := ⟨w.heap.size, 0, none⟩) (by simp; omega)).trans ((World.cell?_alloc_old _ _ _ (Nat.ne_of_lt hn2)).trans g2)
 have g5 := (hB.cell (p := ⟨w.heap.size, 1, none⟩) (by simp; omega)).trans ((World.cell?_alloc_old _ _ _ (Nat.ne_of_lt hn2)).trans g3)
 clear ho hB
 refine ⟨_, rfl, ?_⟩
 refine hK.out _ _ ⟨g4, g5⟩ (fun hHeld => ?_)
 clear hK K
 refine norm_ (a' := ?_) ?_ ?_
 rotate_left
 ·show Act.put _ (some 36) _ = _
  simp only [Act.put, List.setIfInBounds_toArray, List.set_cons_zero, List.set_cons_succ, i64_w, i32_w]
  rfl
 refine pure_ (i := 15) (N := some 6) (v := ?_) (a' := ?_) #[true, true, true, true, true, true, true, true, true, true, true, true, true, true, true, true] rfl rfl (by kernel_rfl) (fun _ _ _ h => h) (Or.inl ⟨by rfl, ?_⟩) ?_ ?_
 rotate_left
 ·intro w'
  go_simp
  with_reducible rfl
 rotate_left
 ·simp only [Act.put, List.setIfInBounds_toArray, List.set_cons_zero, List.set_cons_succ, i64_w, i32_w]
  rfl
 refine done_ (by kernel_rfl) ?_
 try go_wp2
 go_ret
 have z1 := HB1.out.size
 have z2 := HB2.out.size
 simp at z1
 refine ⟨_, rfl, Kd.R_lower HO3.out (by simp; omega), ?_⟩
 refine Below.trans (b := (w.alloc (.cells #[.int .i64 2, .int .i64 (a : Int)] 72)).drew) (below_drew1 (below_alloc (Below.refl _ _) _)) ?_
 refine (HB1.out.mono (by simp)).trans ((HB2.out.mono (by omega)).trans (Below.trans (below_alloc (Below.refl _ _) _ |>.mono (by omega)) (HB3.out.mono (by simp; omega))))
set_option maxHeartbeats 8000000 in
set_option maxRecDepth 100000 in
theorem plan_along (b : Nat) (t : Tab) (x y : Nat) (w : World) (a : Nat) (p q : List S72) (hx : x < 49) (hy : y < 49) (h : TabAt b t w) (h2 : (t.S x y).1 = 3) (ha : (t.S x y).2 = (a : Int)) (ha1 : 1 ≤ a) (hax : a < y) (hpq : p.length + q.length < 100000)
  (ihp : ∀ w, TabAt b t w → Calls Tryd.prog 19 #[.pointer (some ⟨b, 0, none⟩), .int .i64 x, .int .i64 a] w fun e w' => ∃ v, e = .returned v ∧ Kd.R k72 72 w' w.heap.size (fun _ => True) v p ∧ Below w.heap.size w w')
  (ihq : ∀ w, TabAt b t w → Calls Tryd.prog 19 #[.pointer (some ⟨b, 0, none⟩), .int .i64 x, .int .i64 ((y - a : Nat) : Int)] w fun e w' => ∃ v, e = .returned v ∧ Kd.R k72 72 w' w.heap.size (fun _ => True) v q ∧ Below w.heap.size w w') :
  Calls Tryd.prog 19 #[.pointer (some ⟨b, 0, none⟩), .int .i64 x, .int .i64 y] w fun e w' => ∃ v, e = .returned v ∧ Kd.R k72 72 w' w.heap.size (fun _ => True) v (⟨3, (a : Int)⟩ :: (p ++ q)) ∧ Below w.heap.size w w' := by
 obtain ⟨_, c2, c3⟩ := h.1 x y hx hy
 have HT := hid h
 have hb := h.2.2
 rw [h2] at c2
 rw [ha] at c3
 clear h h2 ha
 have x0 : (0 : Int) ≤ (x : Int) := by omega
 have x1 : (x : Int) < 49 := by omega
 have y0 : (0 : Int) ≤ (y : Int) := by omega
 have y1 : (y : Int) < 49 := by omega
 have s7 : IntKind.i64.wrap ((y : Int) - (a : Int)) = ((y - a : Nat) : Int) := by rw [IntWalk.i64_in _ (by omega)]; omega
 have IHP := hid ihp
 have IHQ := hid ihq
 clear ihp ihq
 go_enter Tryd.func19, Tryd.ntmps19
 go_wp2_with (fail)
 refine start_ (n := 16) (S := fun w' => w'.cell? ⟨w.heap.size, 0, none⟩ = some (.int .i64 3) ∧ w'.cell? ⟨w.heap.size, 1, none⟩ = some (.int .i64 (a : Int))) (ds := []) #[false, false, false, false, false, false, false, false, false, false, false, false, false, false, false, false] (by kernel_rfl) rfl rfl ⟨by simp [World.cell?_alloc_new], by simp [World.cell?_alloc_new]⟩ (fun hHeld => ?_)
 refine pure_ (i := 1) (N := some 40) (v := ?_) (a' := ?_) #[false, true, false, false, false, false, false, false, false, false, false, false, false, false, false, false] rfl rfl (by kernel_rfl) (fun _ _ _ h => h) (Or.inl ⟨by rfl, ?_⟩) ?_ ?_
 rotate_left
 ·intro w'
  go_simp
  with_reducible rfl
 rotate_left
 ·simp only [Act.put, List.setIfInBounds_toArray, List.set_cons_zero, List.set_cons_succ, i64_w, i32_w]
  rfl
 refine pure_ (i := 2) (N := some 41) (v := ?_) (a' := ?_) #[false, true, true, false, false, false, false, false, false, false, false, false, false, false, false, false] rfl rfl (by kernel_rfl) (fun _ _ _ h => h) (Or.inl ⟨by rfl, ?_⟩) ?_ ?_
 rotate_left
 ·intro w'
  go_simp
  with_reducible rfl
 rotate_left
 ·simp only [Act.put, List.setIfInBounds_toArray, List.set_cons_zero, List.set_cons_succ, i64_w, i32_w]
  rfl
 refine pure_ (i := 3) (N := some 42) (v := ?_) (a' := ?_) #[false, true, true, true, false, false, false, false, false, false, false, false, false, false, false, false] rfl rfl (by kernel_rfl) (fun _ _ _ h => h) (Or.inl ⟨by rfl, ?_⟩) ?_ ?_
 rotate_left
 ·intro w'
  go_simp
  with_reducible rfl
 rotate_left
 ·simp only [Act.put, List.setIfInBounds_toArray, List.set_cons_zero, List.set_cons_succ, i64_w, i32_w]
  rfl
 refine pure_ (i := 6) (N := some 45) (v := ?_) (a' := ?_) #[false, true, true, true, false, false, true, false, false, false, false, false, false, false, false, false] rfl rfl (by kernel_rfl) (fun _ _ _ h => h) (Or.inl ⟨by rfl, ?_⟩) ?_ ?_
 rotate_left
 ·intro w'
  go_simp
  with_reducible rfl
 rotate_left
 ·simp only [Act.put, List.setIfInBounds_toArray, List.set_cons_zero, List.set_cons_succ, i64_w, i32_w]
  rfl
 refine pure_ (i := 7) (N := some 46) (v := ?_) (a' := ?_) #[false, true, true, true, false, false, true, true, false, false, false, false, false, false, false, false] rfl rfl (by kernel_rfl) (fun _ _ _ h => h) (Or.inl ⟨by rfl, ?_⟩) ?_ ?_
 rotate_left
 ·intro w'
  go_simp
  with_reducible rfl
 rotate_left
 ·simp only [Act.put, List.setIfInBounds_toArray, List.set_cons_zero, List.set_cons_succ, i64_w, i32_w]
  rfl
 refine pure_ (i := 8) (N := some 47) (v := ?_) (a' := ?_) #[false, true, true, true, false, false, true, true, true, false, false, false, false, false, false, false] rfl rfl (by kernel_rfl) (fun _ _ _ h => h) (Or.inl ⟨by rfl, ?_⟩) ?_ ?_
 rotate_left
 ·intro w'
  go_simp
  with_reducible rfl
 rotate_left
 ·simp only [Act.put, List.setIfInBounds_toArray, List.set_cons_zero, List.set_cons_succ, i64_w, i32_w]
  rfl
 refine pure_ (i := 9) (N := some 48) (v := ?_) (a' := ?_) #[false, true, true, true, false, false, true, true, true, true, false, false, false, false, false, false] rfl rfl (by kernel_rfl) (fun _ _ _ h => h) (Or.inl ⟨by rfl, ?_⟩) ?_ ?_
 rotate_left
 ·intro w'
  go_simp
  with_reducible rfl
 rotate_left
 ·simp only [Act.put, List.setIfInBounds_toArray, List.set_cons_zero, List.set_cons_succ, i64_w, i32_w]
  rfl
 refine take_ (i := 0) (N := some 39) (v := ?_) (a' := ?_) #[true, true, true, true, false, false, true, true, true, true, false, false, false, false, false, false] rfl rfl (by kernel_rfl) (fun _ _ _ h => h) (Or.inl ⟨by rfl, ?_⟩) hHeld ?_ ?_
 rotate_left
 ·rintro w' ⟨s0, s1⟩
  go_simp
  with_reducible rfl
 rotate_left
 ·simp only [Act.put, List.setIfInBounds_toArray, List.set_cons_zero, List.set_cons_succ, i64_w, i32_w]
  rfl
 refine take_ (i := 4) (N := some 43) (v := ?_) (a' := ?_) #[true, true, true, true, true, false, true, true, true, true, false, false, false, false, false, false] rfl rfl (by kernel_rfl) (fun _ _ _ h => h) (Or.inl ⟨by rfl, ?_⟩) hHeld ?_ ?_
 rotate_left
 ·rintro w' ⟨s0, s1⟩
  go_simp
  with_reducible rfl
 rotate_left
 ·simp only [Act.put, List.setIfInBounds_toArray, List.set_cons_zero, List.set_cons_succ, i64_w, i32_w]
  rfl
 refine take_ (i := 10) (N := some 49) (v := ?_) (a' := ?_) #[true, true, true, true, true, false, true, true, true, true, true, false, false, false, false, false] rfl rfl (by kernel_rfl) (fun _ _ _ h => h) (Or.inl ⟨by rfl, ?_⟩) hHeld ?_ ?_
 rotate_left
 ·rintro w' ⟨s0, s1⟩
  go_simp
  with_reducible rfl
 rotate_left
 ·simp only [Act.put, List.setIfInBounds_toArray, List.set_cons_zero, List.set_cons_succ, i64_w, i32_w]
  rfl
 refine pure_ (i := 11) (N := some 50) (v := ?_) (a' := ?_) #[true, true, true, true, true, false, true, true, true, true, true, true, false, false, false, false] rfl rfl (by kernel_rfl) (fun _ _ _ h => h) (Or.inl ⟨by rfl, ?_⟩) ?_ ?_
 rotate_left
 ·intro w'
  go_simp
  with_reducible rfl
 rotate_left
 ·simp only [Act.put, List.setIfInBounds_toArray, List.set_cons_zero, List.set_cons_succ, i64_w, i32_w]
  rfl
 refine one_ (i := 5) (N := some 44) #[true, true, true, true, true, true, true, true, true, true, true, true, false, false, false, false] rfl rfl (by kernel_rfl) (by decide) (fun K hK => ?_)
 refine goes_ Tryd.func19 (by kernel_rfl) rfl #[.pointer (some ⟨b, 0, none⟩), .int .i64 (x : Int), .int .i64 (a : Int)] (by rfl) rfl rfl (by (try simp only [List.map_toArray, List.map_cons, List.map_nil]); first | done | rfl) ?_
 refine (IHP.out _ (HT.out.alloc _).drew).mono ?_
 rintro e w1 ⟨v1, rfl, ho, hB⟩
 obtain ⟨A1, k1, eR⟩ := Kd.R_slice ho
 subst eR
 have HO1 := Aside0.mk ho
 have HB1 := Aside0.mk hB
 have HT1 := hid ((HT.out.alloc _).drew.below hB)
 have g0 := (hB.cell (p := ⟨w.heap.size, 0, none⟩) (by simp)).trans (show _ = some (.int .i64 3) from by simp [World.cell?_alloc_new])
 have g1 := (hB.cell (p := ⟨w.heap.size, 1, none⟩) (by simp)).trans (show _ = some (.int .i64 (a : Int)) from by simp [World.cell?_alloc_new])
 clear ho hB
 refine ⟨_, rfl, ?_⟩
 refine hK.out _ _ ⟨g0, g1⟩ (fun hHeld => ?_)
 clear hK K
 refine norm_ (a' := ?_) ?_ ?_
 rotate_left
 ·show Act.put _ (some 44) _ = _
  simp only [Act.put, List.setIfInBounds_toArray, List.set_cons_zero, List.set_cons_succ, i64_w, i32_w]
  rfl
 refine one_ (i := 12) (N := some 51) #[true, true, true, true, true, true, true, true, true, true, true, true, true, false, false, false] rfl rfl (by kernel_rfl) (by decide) (fun K hK => ?_)
 refine goes_ Tryd.func19 (by kernel_rfl) rfl #[.pointer (some ⟨b, 0, none⟩), .int .i64 (x : Int), .int .i64 ((y - a : Nat) : Int)] (by rfl) rfl rfl (by (try simp only [List.map_toArray, List.map_cons, List.map_nil]); first | done | rfl) ?_
 refine (IHQ.out _ HT1.out).mono ?_
 rintro e w2 ⟨v2, rfl, ho, hB⟩
 obtain ⟨A2, k2, eR⟩ := Kd.R_slice ho
 subst eR
 have HO2 := Aside0.mk ho
 have HB2 := Aside0.mk hB
 have hn2 : w.heap.size < w2.heap.size := by have := HB1.out.size; have := HB2.out.size; simp at *; omega
 have g2 := (hB.cell (p := ⟨w.heap.size, 0, none⟩) (by have := HB1.out.size; simp at this ⊢; omega)).trans g0
 have g3 := (hB.cell (p := ⟨w.heap.size, 1, none⟩) (by have := HB1.out.size; simp at this ⊢; omega)).trans g1
 clear ho hB
 refine ⟨_, rfl, ?_⟩
 refine hK.out _ _ ⟨g2, g3⟩ (fun hHeld => ?_)
 clear hK K
 refine norm_ (a' := ?_) ?_ ?_
 rotate_left
 ·show Act.put _ (some 51) _ = _
  simp only [Act.put, List.setIfInBounds_toArray, List.set_cons_zero, List.set_cons_succ, i64_w, i32_w]
  rfl
 refine one_ (i := 13) (N := some 52) #[true, true, true, true, true, true, true, true, true, true, true, true, true, true, false, false] rfl rfl (by kernel_rfl) (by decide) (fun K hK => ?_)
 refine value_ (w1 := ?_) (v := ?_) (by rfl) rfl ?_ ?_
 rotate_left 2
 ·go_simp
  first | (refine ⟨?_, ?_⟩ <;> rfl) | rfl
 refine hK.out _ _ ⟨by rw [World.cell?_alloc_old _ _ _ (Nat.ne_of_lt hn2)]; exact g2, by rw [World.cell?_alloc_old _ _ _ (Nat.ne_of_lt hn2)]; exact g3⟩ (fun hHeld => ?_)
 clear hK K
 refine norm_ (a' := ?_) ?_ ?_
 rotate_left
 ·show Act.put _ (some 52) _ = _
  simp only [Act.put, List.setIfInBounds_toArray, List.set_cons_zero, List.set_cons_succ, i64_w, i32_w]
  rfl
 refine one_ (i := 14) (N := some 53) #[true, true, true, true, true, true, true, true, true, true, true, true, true, true, true, false] rfl rfl (by kernel_rfl) (by decide) (fun K hK => ?_)
 refine goes_ Tryd.func35 (by kernel_rfl) rfl #[.agg #[.int .i64 3, .int .i64 (a : Int)], .slice (some ⟨w2.heap.size, 0, none⟩) 2 2] (by rfl) rfl rfl (by (try simp only [List.map_toArray, List.map_cons, List.map_nil]); first | done | rfl) ?_
 refine (carve_steps.calls 3 3 (a : Int) (some ⟨w2.heap.size, 0, none⟩) 2 [p, q] _ _ (two_C (by simp [World.cell?_alloc_new]) (by simp [World.cell?_alloc_new]) (Kd.R_reads' HO1.out).2.1 (Kd.R_reads' HO2.out).2.1 (Kd.C_below (Kd.C_below (Kd.R_reads' HO1.out).2.2 HB2.out) (below_alloc (Below.refl _ _) _)) (Kd.C_below (Kd.R_reads' HO2.out).2.2 (below_alloc (Below.refl _ _) _))) (Nat.le_refl _) (steps_two 3 (a : Int) p q hpq)).mono ?_
 rintro e w3 ⟨v3, rfl, ho, hB⟩
 have HO3 := Aside0.mk ho
 have HB3 := Aside0.mk hB
 have g4 := (hB.cell (p := ⟨w.heap.size, 0, none⟩) (by simp; omega)).trans ((World.cell?_alloc_old _ _ _ (Nat.ne_of_lt hn2)).trans g2)
 have g5 := (hB.cell (p := ⟨w.heap.size, 1, none⟩) (by simp; omega)).trans ((World.cell?_alloc_old _ _ _ (Nat.ne_of_lt hn2)).trans g3)
 clear ho hB
 refine ⟨_, rfl, ?_⟩
 refine hK.out _ _ ⟨g4, g5⟩ (fun hHeld => ?_)
 clear hK K
 refine norm_ (a' := ?_) ?_ ?_
 rotate_left
 ·show Act.put _ (some 53) _ = _
  simp only [Act.put, List.setIfInBounds_toArray, List.set_cons_zero, List.set_cons_succ, i64_w, i32_w]
  rfl
 refine pure_ (i := 15) (N := some 6) (v := ?_) (a' := ?_) #[true, true, true, true, true, true, true, true, true, true, true, true, true, true, true, true] rfl rfl (by kernel_rfl) (fun _ _ _ h => h) (Or.inl ⟨by rfl, ?_⟩) ?_ ?_
 rotate_left
 ·intro w'
  go_simp
  with_reducible rfl
 rotate_left
 ·simp only [Act.put, List.setIfInBounds_toArray, List.set_cons_zero, List.set_cons_succ, i64_w, i32_w]
  rfl
 refine done_ (by kernel_rfl) ?_
 try go_wp2
 go_ret
 have z1 := HB1.out.size
 have z2 := HB2.out.size
 simp at z1
 refine ⟨_, rfl, Kd.R_lower HO3.out (by simp; omega), ?_⟩
 refine Below.trans (b := (w.alloc (.cells #[.int .i64 3, .int .i64 (a : Int)] 72)).drew) (below_drew1 (below_alloc (Below.refl _ _) _)) ?_
 refine (HB1.out.mono (by simp)).trans ((HB2.out.mono (by omega)).trans (Below.trans (below_alloc (Below.refl _ _) _ |>.mono (by omega)) (HB3.out.mono (by simp; omega))))
theorem plan_walk (b : Nat) (t : Tab) (k : Nat) : ∀ (x y : Nat) (r : List S72) (w : World), x < 49 → y < 49 → TabAt b t w → planF t k x y = some r →
  Calls Tryd.prog 19 #[.pointer (some ⟨b, 0, none⟩), .int .i64 x, .int .i64 y] w fun e w' => ∃ v, e = .returned v ∧ Kd.R k72 72 w' w.heap.size (fun _ => True) v r ∧ Below w.heap.size w w' := by
 induction k with
 | zero => intro x y r w _ _ _ h; exact absurd h (by simp [planF])
 | succ k ih =>
  intro x y r w hx hy hT h
  unfold planF at h
  by_cases h2 : (t.S x y).1 = 2
  ·rw [if_pos h2] at h
   by_cases ha : 1 ≤ (t.S x y).2 ∧ (t.S x y).2 < (x : Int)
   ·rw [if_pos ha] at h
    obtain ⟨p, hp, h⟩ := Option.bind_eq_some_iff.mp h
    obtain ⟨q, hq, h⟩ := Option.bind_eq_some_iff.mp h
    by_cases hl : p.length + q.length < 100000
    ·rw [if_pos hl] at h
     obtain rfl := Option.some.inj h
     obtain ⟨a, hA⟩ := Int.eq_ofNat_of_zero_le (show 0 ≤ (t.S x y).2 by omega)
     rw [hA, Int.toNat_natCast] at hp hq
     rw [hA] at ha ⊢
     exact plan_across b t x y w a p q hx hy hT h2 hA (by omega) (by omega) hl (fun w hT => ih a y p w (by omega) hy hT hp) (fun w hT => ih (x - a) y q w (by omega) hy hT hq)
    ·rw [if_neg hl] at h; exact absurd h (by simp)
   ·rw [if_neg ha] at h; exact absurd h (by simp)
  ·rw [if_neg h2] at h
   by_cases h3 : (t.S x y).1 = 3
   ·rw [if_pos h3] at h
    by_cases ha : 1 ≤ (t.S x y).2 ∧ (t.S x y).2 < (y : Int)
    ·rw [if_pos ha] at h
     obtain ⟨p, hp, h⟩ := Option.bind_eq_some_iff.mp h
     obtain ⟨q, hq, h⟩ := Option.bind_eq_some_iff.mp h
     by_cases hl : p.length + q.length < 100000
     ·rw [if_pos hl] at h
      obtain rfl := Option.some.inj h
      obtain ⟨a, hA⟩ := Int.eq_ofNat_of_zero_le (show 0 ≤ (t.S x y).2 by omega)
      rw [hA, Int.toNat_natCast] at hp hq
      rw [hA] at ha ⊢
      exact plan_along b t x y w a p q hx hy hT h3 hA (by omega) (by omega) hl (fun w hT => ih x a p w hx (by omega) hT hp) (fun w hT => ih x (y - a) q w hx (by omega) hT hq)
     ·rw [if_neg hl] at h; exact absurd h (by simp)
    ·rw [if_neg ha] at h; exact absurd h (by simp)
   ·rw [if_neg h3] at h
    obtain rfl := Option.some.inj h
    exact plan_leaf b t x y w hx hy hT h2 h3
end Go.Proofs.YtiioklboaookiaaDoor.Q
namespace Go.Proofs.YtiioklboaookiaaDoor.Q
open Go.RowKit Go.Proofs.YtiioklboaookiaaDoorW.PrintWords Go.Proofs.YtiioklboaookiaaDoorW.PrintLast Go.Proofs.YtiioklboaookiaaDoor.Hand Go.Proofs.YtiioklboaookiaaDoorW.PrintMore
attribute [local go_sem] max2_int min2_int max_two min_two max_three min_three max_four min_four
set_option linter.unusedVariables false
set_option linter.unusedSimpArgs false
theorem laidOutN : laidOutB Tryd.prog = true := by kernel_rfl
theorem arcRow : (137 : TypeId) < Tryd.prog.types.size := of_decide_eq_true (by kernel_rfl)
theorem arcWide : (match Tryd.prog.underlying 137 with | some (.array _ _) | some (.struct _) => true | _ => false) = true := by rw [Tryd.underlying137]
set_option maxRecDepth 100000 in
theorem arcLaw : WideMaps.KeyLaw Tryd.prog 137 := deep_law_laid laidOutN (m := 2) (by omega) arcRow (by kernel_rfl) arcWide
theorem arcKeyed : Maps.Keyed Tryd.prog 137 := Maps.Keyed.of_law arcLaw
def arcV (u v : Nat) : Value := .agg #[.int .i64 (u : Int), .int .i64 (v : Int)]
theorem wfN {x : Int} (h0 : -9223372036854775808 ≤ x) (h1 : x ≤ 9223372036854775807) : (Lit.int .i64 x).wf = true := by
 have : (Lit.int .i64 x).wf = true ↔ -9223372036854775808 ≤ x ∧ x ≤ 9223372036854775807 := by simp [Lit.wf, IntKind.min, IntKind.max, IntKind.signed, IntKind.bits]
 exact this.2 ⟨h0, h1⟩
theorem cellsInt : Tryd.prog.cellsOf 3 = 1 := by kernel_rfl
theorem cellsArc : Tryd.prog.cellsOf 137 = 2 := by kernel_rfl
theorem keyArc (u v : Nat) (hu : u < 100000) (hv : v < 100000) : ∃ l, keyOf Tryd.prog 137 (arcV u v) = some l := by
 have hk : Tryd.prog.keyType 137 = true := by kernel_rfl
 have hf : (arcV u v).formed Tryd.prog 137 = true := by simp [arcV, Value.formed, Tryd.underlying137, cellsArc]
 obtain ⟨m, hm⟩ : ∃ m, Tryd.prog.types.size + 1 = m + 2 := ⟨Tryd.prog.types.size - 1, by have h0 : 0 < Tryd.prog.types.size := Nat.lt_of_le_of_lt (Nat.zero_le _) arcRow; omega⟩
 have wu : (Lit.int .i64 (u : Int)).wf = true := wfN (by omega) (by omega)
 have wv : (Lit.int .i64 (v : Int)).wf = true := wfN (by omega) (by omega)
 unfold keyOf
 rw [Tryd.underlying137]
 dsimp only
 rw [hk, hf, hm]
 simp [arcV, Program.keyLits, Tryd.underlying137, Tryd.underlying3, cellsArc, cellsInt, wu, wv, Value.cells]
noncomputable def arcL (u v : Nat) : Lit := if h : u < 100000 ∧ v < 100000 then Classical.choose (keyArc u v h.1 h.2) else .nil
theorem arcKey {u v : Nat} (hu : u < 100000) (hv : v < 100000) : keyOf Tryd.prog 137 (arcV u v) = some (arcL u v) := by
 unfold arcL; rw [dif_pos ⟨hu, hv⟩]; exact Classical.choose_spec (keyArc u v hu hv)
theorem arcL_ne {u v x y : Nat} (hu : u < 100000) (hv : v < 100000) (hx : x < 100000) (hy : y < 100000) (h : ¬ (u = x ∧ v = y)) : arcL u v ≠ arcL x y := fun e => by
 have h1 := arcKey hu hv
 rw [e] at h1
 have h2 := arcKeyed.inj h1 (arcKey hx hy)
 unfold arcV at h2
 injection h2 with h2
 injection h2 with h2
 injection h2 with a1 h2
 injection h2 with a2 _
 injection a1 with _ a1
 injection a2 with _ a2
 exact h ⟨by omega, by omega⟩
def upd (M : Nat → Nat → Int) (u v : Nat) (x : Int) : Nat → Nat → Int := fun i j => if i = u ∧ j = v then x else M i j
def RoomAt (b n : Nat) (M : Nat → Nat → Int) (w : World) : Prop := ∃ D : DataW Unit, w.ownsMap Tryd.prog 137 (plainElem Tryd.prog 3) b n D ∧ Maps.IsMap D ∧
 ∀ u v, u < 100000 → v < 100000 → D.atKey (arcL u v) (.lit (.int .i64 0)) = .lit (.int .i64 (M u v))
theorem infoRowN : (Tryd.prog.info? 51).map (fun i => (i.zero, i.size, i.bytes)) = some (some (.slice none 0 0), 1, 24) := by kernel_rfl
theorem infoIntN : (Tryd.prog.info? 3).map (fun i => (i.zero, i.size, i.bytes)) = some (some (.int .i64 0), 1, 8) := by kernel_rfl
theorem zeroInt (w : World) : (zeroValue 3).run Tryd.prog w = .ok (.int .i64 0) w := by kernel_rfl
theorem RoomAt.lt {b n : Nat} {M : Nat → Nat → Int} {w : World} (h : RoomAt b n M w) : b < w.heap.size := by obtain ⟨D, h1, _⟩ := h; exact h1.lt
theorem RoomAt.step {b n : Nat} {M : Nat → Nat → Int} {w w1 : World} (h : RoomAt b n M w) (he : w1.heap[b]? = w.heap[b]?) : RoomAt b n M w1 := by
 obtain ⟨D, ⟨es, clock, hb, r⟩, h2⟩ := h
 exact ⟨D, ⟨es, clock, he.trans hb, r⟩, h2⟩
theorem RoomAt.below {b n : Nat} {M : Nat → Nat → Int} {w w1 : World} (h : RoomAt b n M w) (hb : Below w.heap.size w w1) : RoomAt b n M w1 := h.step (hb.block b h.lt)
theorem RoomAt.start (w : World) : RoomAt w.heap.size 0 (fun _ _ => 0) (w.alloc (.map #[] 0)) := ⟨.map [], World.ownsMap_made _ _ _ _, Maps.isMap_empty, fun _ _ _ _ => rfl⟩
set_option maxRecDepth 100000 in
theorem RoomAt.look {b n : Nat} {M : Nat → Nat → Int} {w : World} (h : RoomAt b n M w) {u v : Nat} (hu : u < 100000) (hv : v < 100000) : (Instr.lookup 143 (.map (some b)) (arcV u v) false).run Tryd.prog w = .ok (.int .i64 (M u v)) w := by
 obtain ⟨D, h1, h2, h3⟩ := h
 obtain ⟨c, hrun, hat, _⟩ := h1.lookup_int arcKeyed Tryd.underlying143 Tryd.underlying3 (zeroInt w) (arcKey hu hv)
 rw [h3 u v hu hv] at hat
 injection hat with hat
 injection hat with _ hat
 rw [hrun, hat]
theorem RoomAt.upd_ {b n : Nat} {M : Nat → Nat → Int} {w' : World} {D : DataW Unit} (h2 : Maps.IsMap D) (h3 : ∀ u v, u < 100000 → v < 100000 → D.atKey (arcL u v) (.lit (.int .i64 0)) = .lit (.int .i64 (M u v))) {u v : Nat} (hu : u < 100000) (hv : v < 100000) (x : Int)
  (h1 : w'.ownsMap Tryd.prog 137 (plainElem Tryd.prog 3) b n (D.put (arcL u v) (.lit (.int .i64 x)))) : RoomAt b n (upd M u v x) w' := by
 refine ⟨_, h1, h2.put _ _, fun i j hi hj => ?_⟩
 unfold upd
 by_cases e : i = u ∧ j = v
 ·obtain ⟨rfl, rfl⟩ := e
  rw [if_pos ⟨rfl, rfl⟩, Maps.atKey_put_same h2 (arcKeyed.key (arcKey hi hj))]
 ·rw [if_neg e, Maps.atKey_put_other (arcL_ne hi hj hu hv e), h3 i j hi hj]
theorem RoomAt.put {b n : Nat} {M : Nat → Nat → Int} {w : World} (h : RoomAt b n M w) (hn : n < maxLen) {u v : Nat} (hu : u < 100000) (hv : v < 100000) {x : Int} (hx : (Lit.int .i64 x).wf = true) :
  ∃ w', (Instr.mapUpdate 143 (.map (some b)) (arcV u v) (.int .i64 x)).run Tryd.prog w = .ok () w' ∧ RoomAt b (n + 1) (upd M u v x) w' ∧ w.grownBy w' (some b) := by
 obtain ⟨D, h1, h2, h3⟩ := h
 obtain ⟨w', hrun, ho, hg⟩ := h1.update arcKeyed Tryd.underlying143 hn (arcKey hu hv) (plainElem_int Tryd.underlying3 hx)
 exact ⟨w', hrun, RoomAt.upd_ h2 h3 hu hv x ho, hg⟩
theorem RoomAt.entry {b n : Nat} {M : Nat → Nat → Int} {w : World} (h : RoomAt b n M w) (hn : n < maxLen) {u v : Nat} (hu : u < 100000) (hv : v < 100000) {x : Int} (hx : (Lit.int .i64 x).wf = true) :
  ∃ v0 st w1 w2, (Instr.mapEntry 143 (.map (some b)) (arcV u v)).run Tryd.prog w = .ok (.tuple #[v0, goInt st]) w1 ∧ (Instr.entryStore 143 (.map (some b)) (goInt st) (.int .i64 x)).run Tryd.prog w1 = .ok () w2 ∧
   RoomAt b (n + 1) (upd M u v x) w2 ∧ w.grownBy w2 (some b) ∧ w1.heap.size = w.heap.size ∧ w2.heap.size = w.heap.size := by
 obtain ⟨D, h1, h2, h3⟩ := h
 have h1' := h1
 obtain ⟨es, clock, hb, F, hs, hD⟩ := h1
 obtain ⟨v0, st, es1, clock1, hE, _, hS⟩ := WideElems.entry_then_store arcLaw Tryd.underlying143 zeroInt hb F (arcKey hu hv)
 obtain ⟨es', clock', hst, hup⟩ := hS (ChangeMaps.setBlock w b (.map es1 clock1)) (.int .i64 x) (ChangeMaps.heap_setBlock_same hb _)
 obtain ⟨w', hrun, ho, hg⟩ := h1'.update arcKeyed Tryd.underlying143 hn (arcKey hu hv) (plainElem_int Tryd.underlying3 hx)
 rw [hrun] at hup
 injection hup with _ hup
 have e2 : ChangeMaps.setBlock (ChangeMaps.setBlock w b (.map es1 clock1)) b (.map es' clock') = w' := by
  rw [hup]
  unfold ChangeMaps.setBlock
  simp
 rw [e2] at hst
 refine ⟨v0, st, _, _, hE, hst, RoomAt.upd_ h2 h3 hu hv x ho, hg, by simp [ChangeMaps.setBlock], by rw [hup]; simp [ChangeMaps.setBlock]⟩
theorem RoomAt.del {b n : Nat} {M : Nat → Nat → Int} {w : World} (h : RoomAt b n M w) {u v : Nat} (hu : u < 100000) (hv : v < 100000) (ty : TypeId) :
  ∃ w', (Builtin.delete_ #[143, 137] ty #[.map (some b), arcV u v]).run Tryd.prog w = .ok (.tuple #[]) w' ∧ RoomAt b n (upd M u v 0) w' ∧ w.grownBy w' (some b) := by
 obtain ⟨D, h1, h2, h3⟩ := h
 obtain ⟨w', hrun, ho, hg⟩ := h1.drop arcKeyed Tryd.underlying143 (arcKey hu hv) ty
 refine ⟨w', hrun, ⟨_, ho, h2.del _, fun i j hi hj => ?_⟩, ?_⟩
 ·unfold upd
  by_cases e : i = u ∧ j = v
  ·obtain ⟨rfl, rfl⟩ := e
   rw [if_pos ⟨rfl, rfl⟩, Maps.atKey_del_same]
  ·rw [if_neg e, Maps.atKey_del_other (arcL_ne hi hj hu hv e), h3 i j hi hj]
 ·exact hg.grown
end Go.Proofs.YtiioklboaookiaaDoor.Q
namespace Go.Proofs.YtiioklboaookiaaDoor.Q
open Go.RowKit Go.Proofs.YtiioklboaookiaaDoorW.PrintWords Go.Proofs.YtiioklboaookiaaDoorW.PrintLast Go.Proofs.YtiioklboaookiaaDoor.Hand Go.Proofs.YtiioklboaookiaaDoorW.PrintMore
attribute [local go_sem] max2_int min2_int max_two min_two max_three min_three max_four min_four
set_option linter.unusedVariables false
set_option linter.unusedSimpArgs false
def nl (L : List Nat) : List Int := L.map fun (i : Nat) => (i : Int)
theorem nl_length (L : List Nat) : (nl L).length = L.length := by simp [nl]
theorem nl_snoc (L : List Nat) (i : Nat) : nl L ++ [(i : Int)] = nl (L ++ [i]) := by simp [nl]
theorem nl_rd (L : List Nat) (i : Nat) (h : i < L.length) : rd (nl L) (i : Int) = (L[i] : Int) := by
 unfold rd nl; rw [Int.toNat_natCast, List.getD_eq_getElem?_getD, List.getElem?_map, List.getElem?_eq_getElem h]; rfl
structure NetAt (nb mb xb B N n : Nat) (M : Nat → Nat → Int) (adj : Nat → List Nat) (vs : Nat → Value) (w : World) : Prop where
 net : w.heap[nb]? = some (.cells #[.map (some mb), .slice (some ⟨xb, 0, none⟩) N N] 145 (0, 0))
 room : RoomAt mb n M w
 row : ∃ C : Array Value, w.heap[xb]? = some (.cells C 51 (0, 0)) ∧ ∀ i, i < N → C[i]? = some (vs i)
 rows : ∀ i, i < N → Kd.R (Kd.int .i64) 3 w B (fun _ => True) (vs i) (nl (adj i))
 apart : ∀ i j, i < N → j < N → i ≠ j → ∀ k, (vs i).ownBlock = some k → (vs j).ownBlock ≠ some k
 bn : B ≤ nb
 bm : B ≤ mb
 bx : B ≤ xb
structure NetKeep (B : Nat) (w w' : World) : Prop where
 bel : Below B w w'
 blk : ∀ (k : Nat) (c : Array Value) (t : TypeId) (fr : Nat × Nat), w.heap[k]? = some (Obj.cells c t fr) → t ≠ 3 → t ≠ 51 → w'.heap[k]? = some (Obj.cells c t fr)
theorem NetKeep.refl (B : Nat) (w : World) : NetKeep B w w := ⟨Below.refl _ _, fun _ _ _ _ h _ _ => h⟩
theorem NetKeep.trans {B : Nat} {a b c : World} (h : NetKeep B a b) (k : NetKeep B b c) : NetKeep B a c := ⟨h.bel.trans k.bel, fun i cs t fr hi h1 h2 => k.blk i cs t fr (h.blk i cs t fr hi h1 h2) h1 h2⟩
theorem NetKeep.of {B : Nat} {w w' : World} (h : Below w.heap.size w w') (hB : B ≤ w.heap.size) : NetKeep B w w' := ⟨h.mono hB, fun k c t fr hk _ _ => (h.block k (lt_of_some hk)).trans hk⟩
theorem NetAt.below {nb mb xb B N n : Nat} {M : Nat → Nat → Int} {adj : Nat → List Nat} {vs : Nat → Value} {w w1 : World} (h : NetAt nb mb xb B N n M adj vs w) (hb : Below w.heap.size w w1) : NetAt nb mb xb B N n M adj vs w1 where
 net := (hb.block _ (lt_of_some h.net)).trans h.net
 room := h.room.below hb
 row := by obtain ⟨C, h1, h2⟩ := h.row; exact ⟨C, (hb.block _ (lt_of_some h1)).trans h1, h2⟩
 rows := fun i hi => Kd.R_below (h.rows i hi) hb
 apart := h.apart
 bn := h.bn
 bm := h.bm
 bx := h.bx
theorem NetAt.lt {nb mb xb B N n : Nat} {M : Nat → Nat → Int} {adj : Nat → List Nat} {vs : Nat → Value} {w : World} (h : NetAt nb mb xb B N n M adj vs w) : nb < w.heap.size ∧ mb < w.heap.size ∧ xb < w.heap.size := by
 obtain ⟨C, h1, _⟩ := h.row
 exact ⟨lt_of_some h.net, h.room.lt, lt_of_some h1⟩
set_option maxHeartbeats 8000000 in
set_option maxRecDepth 100000 in
theorem newNetwork_walk (N : Nat) (w : World) (hN : N ≤ 1000) :
  Calls Tryd.prog 47 #[.int .i64 N] w fun e w' => ∃ nb mb xb, e = .returned (.pointer (some ⟨nb, 0, none⟩)) ∧ NetAt nb mb xb w.heap.size N 0 (fun _ _ => 0) (fun _ => []) (fun _ => .slice none 0 0) w' ∧ Below w.heap.size w w' := by
 have hmm := @run_makeMap Tryd.prog
 have hmk := fun w => run_make_row' (P := Tryd.prog) 43 51 (.slice none 0 0) 24 Tryd.underlying43 infoRowN rfl .i64 .i64 N (by omega) (by omega) w
 go_enter Tryd.func47, Tryd.ntmps47
 go_wp2_with (fail)
 go_ret
 refine ⟨w.heap.size + 2, w.heap.size, w.heap.size + 1, rfl, ⟨?_, ?_, ?_, ?_, ?_, ?_, ?_, ?_⟩, ?_⟩
 ·exact heap_new _ _ _ (by simp)
 ·exact ((RoomAt.start w).below (below_alloc (Below.refl _ _) _)).below (below_alloc (Below.refl _ _) _)
 ·refine ⟨_, blk_alloc (heap_new _ _ _ (by simp)) _, fun i hi => ?_⟩
  rw [Array.getElem?_eq_getElem (by rw [size_madeCells]; simpa using hi)]
  simp [madeCells, Nat.mod_one]
 ·exact fun i hi => Kd.R_nil _ _ _ _ _
 ·intro i j _ _ _ k hk; simp [Value.ownBlock] at hk
 ·omega
 ·omega
 ·omega
 ·repeat (first | exact Below.refl _ _ | refine below_alloc ?_ _)
def push1 (adj : Nat → List Nat) (i x : Nat) : Nat → List Nat := fun j => if j = i then adj i ++ [x] else adj j
def setV (vs : Nat → Value) (i : Nat) (v : Value) : Nat → Value := fun j => if j = i then v else vs j
theorem NetAt.grow {nb mb xb B N n : Nat} {M : Nat → Nat → Int} {adj : Nat → List Nat} {vs : Nat → Value} {W w2 : World} (h : NetAt nb mb xb B N n M adj vs W) (i x : Nat) (hi : i < N) (v1 : Value) (ho : Kd.R (Kd.int .i64) 3 w2 B (fun _ => True) v1 (nl (adj i) ++ [(x : Int)]))
  (hg : W.grownBy w2 (vs i).ownBlock) (hat : v1.ownBlock = (vs i).ownBlock ∨ ∃ b, v1.ownBlock = some b ∧ W.heap.size ≤ b) : NetAt nb mb xb B N n M (push1 adj i x) (setV vs i v1) (w2.setCell ⟨xb, i, none⟩ v1) ∧
   (∀ (k : Nat) (c : Array Value) (t : TypeId) (fr : Nat × Nat), W.heap[k]? = some (Obj.cells c t fr) → t ≠ 3 → t ≠ 51 → (w2.setCell ⟨xb, i, none⟩ v1).heap[k]? = some (Obj.cells c t fr)) := by
 obtain ⟨C, hC, hCi⟩ := h.row
 have own : ∀ k, (vs i).ownBlock = some k → ∃ cells, W.heap[k]? = some (.cells cells 3 (0, 0)) := fun k hk => by
  obtain ⟨_, inner, hw, _⟩ := h.rows i hi
  exact own_typed hw k hk
 have far : ∀ (k : Nat) (o : Obj), W.heap[k]? = some o → (∀ c, o ≠ .cells c 3 (0, 0)) → w2.heap[k]? = some o := fun k o hk hne => by
  rw [hg.block k (lt_of_some hk) (fun e => by
   obtain ⟨cells, hc⟩ := own k e.symm
   rw [hk] at hc
   exact hne _ (Option.some.inj hc))]
  exact hk
 have hC2 : w2.heap[xb]? = some (.cells C 51 (0, 0)) := far xb _ hC (fun c e => by injection e with _ e; exact absurd e (by decide))
 have keep : ∀ (k : Nat), k ≠ xb → (w2.setCell ⟨xb, i, none⟩ v1).heap[k]? = w2.heap[k]? := fun k hk => Below.heap_setCell w2 ⟨xb, i, none⟩ v1 k hk
 have nbx : nb ≠ xb := fun e => by
  have := h.net
  rw [e, hC] at this
  injection this with this
  injection this with _ this
  exact absurd this (by decide)
 have mbx : mb ≠ xb := fun e => by
  obtain ⟨D, ⟨es, clock, hb, _⟩, _⟩ := h.room
  rw [e, hC] at hb
  injection hb with hb
  cases hb
 refine ⟨⟨?_, ?_, ?_, ?_, ?_, h.bn, h.bm, h.bx⟩, ?_⟩
 ·rw [keep nb nbx]; exact far nb _ h.net (fun c e => by injection e with _ e; exact absurd e (by decide))
 ·refine h.room.step ?_
  obtain ⟨D, ⟨es, clock, hb, _⟩, _⟩ := h.room
  rw [keep mb mbx, hb]
  exact far mb _ hb (fun c e => by cases e)
 ·refine ⟨C.setIfInBounds i v1, blk_set hC2 i v1, fun j hj => ?_⟩
  have hs : i < C.size := lt_of_some (hCi i hi)
  rw [Array.getElem?_setIfInBounds]
  unfold setV
  by_cases e : i = j
  ·subst e; simp [hs]
  ·rw [if_neg e, if_neg (fun e' => e e'.symm)]; exact hCi j hj
 ·intro j hj
  unfold push1 setV
  by_cases e : j = i
  ·subst e
   rw [if_pos rfl, if_pos rfl, ← nl_snoc]
   exact Kd.R_set ho hC2 (by simp [Kd.int, Kd.scalar]) j v1
  ·rw [if_neg e, if_neg e]
   refine Kd.R_set ?_ hC2 (by simp [Kd.int, Kd.scalar]) i v1
   exact Kd.R_mono (Kd.R_grown (ok := fun k => (vs j).ownBlock = some k) (by
    obtain ⟨_, r⟩ := h.rows j hj
    exact ⟨fun k hk => hk, r.imp_ (fun _ _ hp => hp)⟩) hg (fun k hk e' => h.apart j i hj hi e k hk e'.symm)) (fun _ _ => trivial)
 ·intro j k hj hk hjk b hb hb'
  unfold setV at hb hb'
  have fresh : ∀ q, q < N → q ≠ i → ∀ b, v1.ownBlock = some b → (vs q).ownBlock = some b → False := fun q hq hqi b h1 h2 => by
   rcases hat with e | ⟨b', e, hlt⟩
   ·exact h.apart q i hq hi hqi b h2 (e ▸ h1)
   ·rw [e] at h1
    injection h1 with h1
    obtain ⟨_, inner, hw, _⟩ := h.rows q hq
    have := own_lt hw b h2
    omega
  by_cases e : j = i
  ·rw [if_pos e] at hb
   rw [if_neg (fun e' => hjk (e.trans e'.symm))] at hb'
   exact fresh k hk (fun e' => hjk (e.trans e'.symm)) b hb hb'
  ·rw [if_neg e] at hb
   by_cases e' : k = i
   ·rw [if_pos e'] at hb'
    exact fresh j hj e b hb' hb
   ·rw [if_neg e'] at hb'
    exact h.apart j k hj hk hjk b hb hb'
 ·intro k c t fr hk h1 h2
  rw [keep k (fun e => by
   rw [e, hC] at hk
   injection hk with hk
   injection hk with _ hk
   exact h2 hk.symm)]
  exact far k _ hk (fun c' e => by injection e with _ e; exact h1 e)
end Go.Proofs.YtiioklboaookiaaDoor.Q
namespace Go.Proofs.YtiioklboaookiaaDoor.Q
open Go.RowKit Go.Proofs.YtiioklboaookiaaDoorW.PrintWords Go.Proofs.YtiioklboaookiaaDoorW.PrintLast Go.Proofs.YtiioklboaookiaaDoor.Hand Go.Proofs.YtiioklboaookiaaDoorW.PrintMore
attribute [local go_sem] max2_int min2_int max_two min_two max_three min_three max_four min_four
set_option linter.unusedVariables false
set_option linter.unusedSimpArgs false
theorem NetAt.put {nb mb xb B N n n' : Nat} {M M' : Nat → Nat → Int} {adj : Nat → List Nat} {vs : Nat → Value} {w w1 : World} (h : NetAt nb mb xb B N n M adj vs w) (hR : RoomAt mb n' M' w1) (hg : w.grownBy w1 (some mb)) : NetAt nb mb xb B N n' M' adj vs w1 ∧ NetKeep B w w1 := by
 have ismap : ∀ (k : Nat) (c : Array Value) (t : TypeId) (fr : Nat × Nat), w.heap[k]? = some (Obj.cells c t fr) → some k ≠ some mb := fun k c t fr hk e => by
  injection e with e
  obtain ⟨D, ⟨es, clock, hb, _⟩, _⟩ := h.room
  rw [e, hb] at hk
  injection hk with hk
  cases hk
 have far : ∀ (k : Nat) (c : Array Value) (t : TypeId) (fr : Nat × Nat), w.heap[k]? = some (Obj.cells c t fr) → w1.heap[k]? = some (Obj.cells c t fr) := fun k c t fr hk => (hg.block k (lt_of_some hk) (ismap k c t fr hk)).trans hk
 obtain ⟨C, hC, hCi⟩ := h.row
 refine ⟨⟨far _ _ _ _ h.net, hR, ⟨C, far _ _ _ _ hC, hCi⟩, fun i hi => ?_, h.apart, h.bn, h.bm, h.bx⟩, ⟨?_, fun k c t fr hk _ _ => far k c t fr hk⟩⟩
 ·refine Kd.R_mono (Kd.R_grown (Kd.R_bound (h.rows i hi)) hg (fun k hk => ?_)) (fun _ _ => trivial)
  obtain ⟨_, _, _, q, _, cells, hc⟩ := hk
  exact ismap k cells q (0, 0) hc
 ·exact (Below.refl B w).grown hg (by have := h.bm; have := h.room.lt; omega) (fun k hk => by injection hk with hk; rw [← hk]; exact h.bm)
theorem NetAt.cells {nb mb xb B N n : Nat} {M : Nat → Nat → Int} {adj : Nat → List Nat} {vs : Nat → Value} {w : World} (h : NetAt nb mb xb B N n M adj vs w) : w.cell? ⟨nb, 0, none⟩ = some (.map (some mb)) ∧ w.cell? ⟨nb, 1, none⟩ = some (.slice (some ⟨xb, 0, none⟩) N N) := by
 simp [World.cell?, h.net]
theorem NetAt.rowAt {nb mb xb B N n : Nat} {M : Nat → Nat → Int} {adj : Nat → List Nat} {vs : Nat → Value} {w : World} (h : NetAt nb mb xb B N n M adj vs w) (i : Nat) (hi : i < N) : w.cell? ⟨xb, i, none⟩ = some (vs i) ∧ w.frozen? ⟨xb, i, none⟩ = false := by
 obtain ⟨C, h1, h2⟩ := h.row
 simp [World.cell?, World.frozen?, h1, h2 i hi]
theorem NetAt.grownCells {nb mb xb B N n : Nat} {M : Nat → Nat → Int} {adj : Nat → List Nat} {vs : Nat → Value} {W w2 : World} (h : NetAt nb mb xb B N n M adj vs W) (i : Nat) (hi : i < N) (hg : W.grownBy w2 (vs i).ownBlock) :
  w2.cell? ⟨nb, 1, none⟩ = some (.slice (some ⟨xb, 0, none⟩) N N) ∧ (∀ j, j < N → w2.cell? ⟨xb, j, none⟩ = some (vs j) ∧ w2.frozen? ⟨xb, j, none⟩ = false) := by
 have far : ∀ (k : Nat) (c : Array Value) (t : TypeId) (fr : Nat × Nat), W.heap[k]? = some (Obj.cells c t fr) → t ≠ 3 → w2.heap[k]? = some (Obj.cells c t fr) := fun k c t fr hk ht => by
  rw [hg.block k (lt_of_some hk) (fun e => by
   obtain ⟨_, inner, hw, _⟩ := h.rows i hi
   obtain ⟨cells, hc⟩ := own_typed hw k e.symm
   rw [hk] at hc
   injection hc with hc
   injection hc with _ hc
   exact ht hc)]
  exact hk
 obtain ⟨C, hC, hCi⟩ := h.row
 have h1 := far _ _ _ _ h.net (by decide)
 have h2 := far _ _ _ _ hC (by decide)
 exact ⟨by simp [World.cell?, h1], fun j hj => by simp [World.cell?, World.frozen?, h2, hCi j hj]⟩
theorem NetAt.base {nb mb xb B N n : Nat} {M : Nat → Nat → Int} {adj : Nat → List Nat} {vs : Nat → Value} {w : World} (h : NetAt nb mb xb B N n M adj vs w) : B ≤ w.heap.size := by have := h.bm; have := h.room.lt; omega
set_option maxHeartbeats 8000000 in
set_option maxRecDepth 100000 in
theorem add_walk (nb mb xb B N n : Nat) (M : Nat → Nat → Int) (adj : Nat → List Nat) (vs : Nat → Value) (w : World) (u v : Nat) (x : Int) (h : NetAt nb mb xb B N n M adj vs w) (hN : N ≤ 1000) (hn : n < 1000000000) (hu : u < N) (hv : v < N) (hx : (Lit.int .i64 x).wf = true) (hadj : ∀ i, (adj i).length < 1000000) :
  Calls Tryd.prog 48 #[.pointer (some ⟨nb, 0, none⟩), .int .i64 u, .int .i64 v, .int .i64 x] w fun e w' => e = .returned (.tuple #[]) ∧ (∃ vs', NetAt nb mb xb B N (n + 1) (upd M u v x) (push1 (push1 adj u v) v u) vs' w') ∧ NetKeep B w w' := by
 obtain ⟨w1, hrun, hR1, hg1⟩ := h.room.put (u := u) (v := v) (x := x) (by unfold maxLen; omega) (by omega) (by omega) hx
 unfold arcV at hrun
 obtain ⟨hn1, hk1⟩ := h.put hR1 hg1
 have HN1 := hid hn1
 have HK1 := hid hk1
 have HADJ := hid hadj
 have q0 : w.cell? ⟨nb, 0, none⟩ = some (.map (some mb)) := h.cells.1
 have C1 := hid (show w1.drew.cell? ⟨nb, 1, none⟩ = some (.slice (some ⟨xb, 0, none⟩) N N) from hn1.cells.2)
 have C2 := hid (show w1.drew.cell? ⟨xb, u, none⟩ = some (vs u) from (hn1.rowAt u hu).1)
 have HL1 := hid hn1.lt
 have u0 : (0 : Int) ≤ (u : Int) := by omega
 have u1 : (u : Int) < (N : Int) := by omega
 have v0 : (0 : Int) ≤ (v : Int) := by omega
 have v1_ : (v : Int) < (N : Int) := by omega
 clear h hR1 hg1 hn1 hk1
 go_enter Tryd.func48, Tryd.ntmps48
 go_wp2_with (fail)
 refine start_ (n := 17) (S := fun w' => w'.cell? ⟨nb, 1, none⟩ = some (.slice (some ⟨xb, 0, none⟩) N N) ∧ w'.cell? ⟨xb, u, none⟩ = some (vs u)) (ds := [16]) #[false, false, false, false, false, false, false, false, false, false, false, false, false, false, false, false, false] (by kernel_rfl) rfl rfl ⟨C1.out, C2.out⟩ (fun hHeld => ?_)
 refine pure_ (i := 0) (N := some 16) (v := ?_) (a' := ?_) #[true, false, false, false, false, false, false, false, false, false, false, false, false, false, false, false, false] rfl rfl (by kernel_rfl) (fun _ _ _ h => h) (Or.inl ⟨by rfl, ?_⟩) ?_ ?_
 rotate_left
 ·intro w'
  go_simp
  with_reducible rfl
 rotate_left
 ·simp only [Act.put, List.setIfInBounds_toArray, List.set_cons_zero, List.set_cons_succ, i64_w, i32_w]
  rfl
 refine pure_ (i := 1) (N := some 17) (v := ?_) (a' := ?_) #[true, true, false, false, false, false, false, false, false, false, false, false, false, false, false, false, false] rfl rfl (by kernel_rfl) (fun _ _ _ h => h) (Or.inl ⟨by rfl, ?_⟩) ?_ ?_
 rotate_left
 ·intro w'
  go_simp
  with_reducible rfl
 rotate_left
 ·simp only [Act.put, List.setIfInBounds_toArray, List.set_cons_zero, List.set_cons_succ, i64_w, i32_w]
  rfl
 refine pure_ (i := 2) (N := some 18) (v := ?_) (a' := ?_) #[true, true, true, false, false, false, false, false, false, false, false, false, false, false, false, false, false] rfl rfl (by kernel_rfl) (fun _ _ _ h => h) (Or.inl ⟨by rfl, ?_⟩) ?_ ?_
 rotate_left
 ·intro w'
  go_simp
  with_reducible rfl
 rotate_left
 ·simp only [Act.put, List.setIfInBounds_toArray, List.set_cons_zero, List.set_cons_succ, i64_w, i32_w]
  rfl
 refine pure_ (i := 4) (N := some 20) (v := ?_) (a' := ?_) #[true, true, true, false, true, false, false, false, false, false, false, false, false, false, false, false, false] rfl rfl (by kernel_rfl) (fun _ _ _ h => h) (Or.inl ⟨by rfl, ?_⟩) ?_ ?_
 rotate_left
 ·intro w'
  go_simp
  with_reducible rfl
 rotate_left
 ·simp only [Act.put, List.setIfInBounds_toArray, List.set_cons_zero, List.set_cons_succ, i64_w, i32_w]
  rfl
 refine pure_ (i := 5) (N := some 21) (v := ?_) (a' := ?_) #[true, true, true, false, true, true, false, false, false, false, false, false, false, false, false, false, false] rfl rfl (by kernel_rfl) (fun _ _ _ h => h) (Or.inl ⟨by rfl, ?_⟩) ?_ ?_
 rotate_left
 ·intro w'
  go_simp
  with_reducible rfl
 rotate_left
 ·simp only [Act.put, List.setIfInBounds_toArray, List.set_cons_zero, List.set_cons_succ, i64_w, i32_w]
  rfl
 refine pure_ (i := 6) (N := some 22) (v := ?_) (a' := ?_) #[true, true, true, false, true, true, true, false, false, false, false, false, false, false, false, false, false] rfl rfl (by kernel_rfl) (fun _ _ _ h => h) (Or.inl ⟨by rfl, ?_⟩) ?_ ?_
 rotate_left
 ·intro w'
  go_simp
  with_reducible rfl
 rotate_left
 ·simp only [Act.put, List.setIfInBounds_toArray, List.set_cons_zero, List.set_cons_succ, i64_w, i32_w]
  rfl
 refine pure_ (i := 7) (N := some 23) (v := ?_) (a' := ?_) #[true, true, true, false, true, true, true, true, false, false, false, false, false, false, false, false, false] rfl rfl (by kernel_rfl) (fun _ _ _ h => h) (Or.inl ⟨by rfl, ?_⟩) ?_ ?_
 rotate_left
 ·intro w'
  go_simp
  with_reducible rfl
 rotate_left
 ·simp only [Act.put, List.setIfInBounds_toArray, List.set_cons_zero, List.set_cons_succ, i64_w, i32_w]
  rfl
 refine pure_ (i := 9) (N := some 25) (v := ?_) (a' := ?_) #[true, true, true, false, true, true, true, true, false, true, false, false, false, false, false, false, false] rfl rfl (by kernel_rfl) (fun _ _ _ h => h) (Or.inl ⟨by rfl, ?_⟩) ?_ ?_
 rotate_left
 ·intro w'
  go_simp
  with_reducible rfl
 rotate_left
 ·simp only [Act.put, List.setIfInBounds_toArray, List.set_cons_zero, List.set_cons_succ, i64_w, i32_w]
  rfl
 refine pure_ (i := 12) (N := some 28) (v := ?_) (a' := ?_) #[true, true, true, false, true, true, true, true, false, true, false, false, true, false, false, false, false] rfl rfl (by kernel_rfl) (fun _ _ _ h => h) (Or.inl ⟨by rfl, ?_⟩) ?_ ?_
 rotate_left
 ·intro w'
  go_simp
  with_reducible rfl
 rotate_left
 ·simp only [Act.put, List.setIfInBounds_toArray, List.set_cons_zero, List.set_cons_succ, i64_w, i32_w]
  rfl
 refine take_ (i := 3) (N := some 19) (v := ?_) (a' := ?_) #[true, true, true, true, true, true, true, true, false, true, false, false, true, false, false, false, false] rfl rfl (by kernel_rfl) (fun _ _ _ h => h) (Or.inl ⟨by rfl, ?_⟩) hHeld ?_ ?_
 rotate_left
 ·rintro w' ⟨s0, s1⟩
  go_simp
  with_reducible rfl
 rotate_left
 ·simp only [Act.put, List.setIfInBounds_toArray, List.set_cons_zero, List.set_cons_succ, i64_w, i32_w]
  rfl
 refine take_ (i := 8) (N := some 24) (v := ?_) (a' := ?_) #[true, true, true, true, true, true, true, true, true, true, false, false, true, false, false, false, false] rfl rfl (by kernel_rfl) (fun _ _ _ h => h) (Or.inl ⟨by rfl, ?_⟩) hHeld ?_ ?_
 rotate_left
 ·rintro w' ⟨s0, s1⟩
  go_simp
  with_reducible rfl
 rotate_left
 ·simp only [Act.put, List.setIfInBounds_toArray, List.set_cons_zero, List.set_cons_succ, i64_w, i32_w]
  rfl
 refine pure_ (i := 10) (N := some 26) (v := ?_) (a' := ?_) #[true, true, true, true, true, true, true, true, true, true, true, false, true, false, false, false, false] rfl rfl (by kernel_rfl) (fun _ _ _ h => h) (Or.inl ⟨by rfl, ?_⟩) ?_ ?_
 rotate_left
 ·intro w'
  go_simp
  with_reducible rfl
 rotate_left
 ·simp only [Act.put, List.setIfInBounds_toArray, List.set_cons_zero, List.set_cons_succ, i64_w, i32_w]
  rfl
 refine take_ (i := 11) (N := some 27) (v := ?_) (a' := ?_) #[true, true, true, true, true, true, true, true, true, true, true, true, true, false, false, false, false] rfl rfl (by kernel_rfl) (fun _ _ _ h => h) (Or.inl ⟨by rfl, ?_⟩) hHeld ?_ ?_
 rotate_left
 ·rintro w' ⟨s0, s1⟩
  go_simp
  with_reducible rfl
 rotate_left
 ·simp only [Act.put, List.setIfInBounds_toArray, List.set_cons_zero, List.set_cons_succ, i64_w, i32_w]
  rfl
 refine one_ (i := 13) (N := some 29) #[true, true, true, true, true, true, true, true, true, true, true, true, true, true, false, false, false] rfl rfl (by kernel_rfl) (by decide) (fun K hK => ?_)
 refine value_ (w1 := ?_) (v := ?_) (by rfl) rfl ?_ ?_
 rotate_left 2
 ·go_simp
  first | (refine ⟨?_, ?_⟩ <;> rfl) | rfl
 refine hK.out _ _ ⟨by rw [World.cell?_drew, World.cell?_alloc_old _ _ _ (Nat.ne_of_lt HL1.out.1)]; exact C1.out, by rw [World.cell?_drew, World.cell?_alloc_old _ _ _ (Nat.ne_of_lt HL1.out.2.2)]; exact C2.out⟩ (fun hHeld => ?_)
 clear hK K
 refine norm_ (a' := ?_) ?_ ?_
 rotate_left
 ·show Act.put _ (some 29) _ = _
  simp only [Act.put, List.setIfInBounds_toArray, List.set_cons_zero, List.set_cons_succ, i64_w, i32_w]
  rfl
 refine one_ (i := 14) (N := some 30) #[true, true, true, true, true, true, true, true, true, true, true, true, true, true, true, false, false] rfl rfl (by kernel_rfl) (by decide) (fun K hK => ?_)
 refine Kd.R_append_step (Kd.int .i64) (w0 := w1.drew) B (by rfl) (.tmp 27) (.tmp 29) 51 3 (.int .i64 0) 8 rfl Tryd.underlying51 infoIntN rfl (by decide) (by omega) (vs u) (nl (adj u)) (v : Int) [.int .i64 (v : Int)] (fun _ => True) (fun _ => False) rfl rfl rfl (fun _ hk => hk.elim) (fun _ _ => trivial) (Kd.R_drew (HN1.out.rows u hu)) (Below.refl _ _) (HN1.out.base) ?aL ?_
 (case aL => rw [nl_length]; have := HADJ.out u; omega)
 intro v1 w2 ho hb hg hat
 obtain ⟨A1, c1, eR⟩ := Kd.R_slice ho
 obtain ⟨L1, hL1⟩ : ∃ L1, L1 = (nl (adj u) ++ [(v : Int)]).length := ⟨_, rfl⟩
 rw [← hL1] at eR
 clear hL1
 subst eR
 have HO := Aside0.mk ho
 have HG := Aside0.mk hg
 have HBb := Aside0.mk hb
 have HAT := Aside0.mk hat
 have g0 := (NetAt.grownCells (HN1.out.below (below_drew1 (Below.refl _ _))) u hu HG.out).1
 have g1 := ((NetAt.grownCells (HN1.out.below (below_drew1 (Below.refl _ _))) u hu HG.out).2 u hu).1
 have gf := ((NetAt.grownCells (HN1.out.below (below_drew1 (Below.refl _ _))) u hu HG.out).2 u hu).2
 clear ho hb hg hat
 refine hK.out _ _ ⟨g0, g1⟩ (fun hHeld => ?_)
 clear hK K
 refine norm_ (a' := ?_) ?_ ?_
 rotate_left
 ·show Act.put _ (some 30) _ = _
  simp only [Act.put, List.setIfInBounds_toArray, List.set_cons_zero, List.set_cons_succ, i64_w, i32_w]
  rfl
 refine pure_ (i := 15) (N := some 31) (v := ?_) (a' := ?_) #[true, true, true, true, true, true, true, true, true, true, true, true, true, true, true, true, false] rfl rfl (by kernel_rfl) (fun _ _ _ h => h) (Or.inl ⟨by rfl, ?_⟩) ?_ ?_
 rotate_left
 ·intro w'
  go_simp
  with_reducible rfl
 rotate_left
 ·simp only [Act.put, List.setIfInBounds_toArray, List.set_cons_zero, List.set_cons_succ, i64_w, i32_w]
  rfl
 refine last_ (i := 16) (N := none) #[true, true, true, true, true, true, true, true, true, true, true, true, true, true, true, true, true] rfl rfl (by kernel_rfl) (by decide) (fun K hK => ?_)
 refine skip_ (w1 := ?_) (by rfl) rfl ?_ ?_
 rotate_left
 ·go_simp
  rfl
 refine hK.out _ _ ?_
 clear hK K
 refine done_ (by kernel_rfl) ?_
 obtain ⟨hn3, hk3⟩ := NetAt.grow (HN1.out.below (below_drew1 (Below.refl _ _))) u v hu (.slice A1 L1 c1) HO.out HG.out HAT.out
 have hbel3 := Below.setCell (p := ⟨xb, u, none⟩) HBb.out HN1.out.bx (.slice A1 L1 c1)
 obtain ⟨w3, hw3⟩ : ∃ w3, w3 = w2.setCell ⟨xb, u, none⟩ (.slice A1 L1 c1) := ⟨_, rfl⟩
 rw [← hw3] at hn3 hk3 hbel3 ⊢
 obtain ⟨vs3, hvs3⟩ : ∃ vs3, vs3 = setV vs u (.slice A1 L1 c1) := ⟨_, rfl⟩
 rw [← hvs3] at hn3
 clear hvs3 hw3 HO HG HBb HAT g0 g1 gf C1 C2
 have HN3 := hid hn3
 have HK3 : Hid (NetKeep B w w3) := (HK1.out.trans (NetKeep.of (below_drew1 (Below.refl _ _)) HN1.out.base)).trans ⟨hbel3, hk3⟩
 have C1 := hid (show w3.drew.cell? ⟨nb, 1, none⟩ = some (.slice (some ⟨xb, 0, none⟩) N N) from hn3.cells.2)
 have C2 := hid (show w3.drew.cell? ⟨xb, v, none⟩ = some (vs3 v) from (hn3.rowAt v hv).1)
 have HL3 := hid hn3.lt
 have hadj3 : ((push1 adj u v) v).length < 1000001 := by
  unfold push1
  split
  ·rw [List.length_append]; have := HADJ.out u; simp; omega
  ·have := HADJ.out v; omega
 clear hn3 hk3 hbel3
 (try go_wp2)
 refine start_ (n := 17) (S := fun w' => w'.cell? ⟨nb, 1, none⟩ = some (.slice (some ⟨xb, 0, none⟩) N N) ∧ w'.cell? ⟨xb, v, none⟩ = some (vs3 v)) (ds := [16]) #[false, false, false, false, false, false, false, false, false, false, false, false, false, false, false, false, false] (by kernel_rfl) rfl rfl ⟨C1.out, C2.out⟩ (fun hHeld => ?_)
 refine pure_ (i := 0) (N := some 32) (v := ?_) (a' := ?_) #[true, false, false, false, false, false, false, false, false, false, false, false, false, false, false, false, false] rfl rfl (by kernel_rfl) (fun _ _ _ h => h) (Or.inl ⟨by rfl, ?_⟩) ?_ ?_
 rotate_left
 ·intro w'
  go_simp
  with_reducible rfl
 rotate_left
 ·simp only [Act.put, List.setIfInBounds_toArray, List.set_cons_zero, List.set_cons_succ, i64_w, i32_w]
  rfl
 refine pure_ (i := 1) (N := some 33) (v := ?_) (a' := ?_) #[true, true, false, false, false, false, false, false, false, false, false, false, false, false, false, false, false] rfl rfl (by kernel_rfl) (fun _ _ _ h => h) (Or.inl ⟨by rfl, ?_⟩) ?_ ?_
 rotate_left
 ·intro w'
  go_simp
  with_reducible rfl
 rotate_left
 ·simp only [Act.put, List.setIfInBounds_toArray, List.set_cons_zero, List.set_cons_succ, i64_w, i32_w]
  rfl
 refine pure_ (i := 2) (N := some 34) (v := ?_) (a' := ?_) #[true, true, true, false, false, false, false, false, false, false, false, false, false, false, false, false, false] rfl rfl (by kernel_rfl) (fun _ _ _ h => h) (Or.inl ⟨by rfl, ?_⟩) ?_ ?_
 rotate_left
 ·intro w'
  go_simp
  with_reducible rfl
 rotate_left
 ·simp only [Act.put, List.setIfInBounds_toArray, List.set_cons_zero, List.set_cons_succ, i64_w, i32_w]
  rfl
 refine pure_ (i := 4) (N := some 36) (v := ?_) (a' := ?_) #[true, true, true, false, true, false, false, false, false, false, false, false, false, false, false, false, false] rfl rfl (by kernel_rfl) (fun _ _ _ h => h) (Or.inl ⟨by rfl, ?_⟩) ?_ ?_
 rotate_left
 ·intro w'
  go_simp
  with_reducible rfl
 rotate_left
 ·simp only [Act.put, List.setIfInBounds_toArray, List.set_cons_zero, List.set_cons_succ, i64_w, i32_w]
  rfl
 refine pure_ (i := 5) (N := some 37) (v := ?_) (a' := ?_) #[true, true, true, false, true, true, false, false, false, false, false, false, false, false, false, false, false] rfl rfl (by kernel_rfl) (fun _ _ _ h => h) (Or.inl ⟨by rfl, ?_⟩) ?_ ?_
 rotate_left
 ·intro w'
  go_simp
  with_reducible rfl
 rotate_left
 ·simp only [Act.put, List.setIfInBounds_toArray, List.set_cons_zero, List.set_cons_succ, i64_w, i32_w]
  rfl
 refine pure_ (i := 6) (N := some 38) (v := ?_) (a' := ?_) #[true, true, true, false, true, true, true, false, false, false, false, false, false, false, false, false, false] rfl rfl (by kernel_rfl) (fun _ _ _ h => h) (Or.inl ⟨by rfl, ?_⟩) ?_ ?_
 rotate_left
 ·intro w'
  go_simp
  with_reducible rfl
 rotate_left
 ·simp only [Act.put, List.setIfInBounds_toArray, List.set_cons_zero, List.set_cons_succ, i64_w, i32_w]
  rfl
 refine pure_ (i := 7) (N := some 39) (v := ?_) (a' := ?_) #[true, true, true, false, true, true, true, true, false, false, false, false, false, false, false, false, false] rfl rfl (by kernel_rfl) (fun _ _ _ h => h) (Or.inl ⟨by rfl, ?_⟩) ?_ ?_
 rotate_left
 ·intro w'
  go_simp
  with_reducible rfl
 rotate_left
 ·simp only [Act.put, List.setIfInBounds_toArray, List.set_cons_zero, List.set_cons_succ, i64_w, i32_w]
  rfl
 refine pure_ (i := 9) (N := some 41) (v := ?_) (a' := ?_) #[true, true, true, false, true, true, true, true, false, true, false, false, false, false, false, false, false] rfl rfl (by kernel_rfl) (fun _ _ _ h => h) (Or.inl ⟨by rfl, ?_⟩) ?_ ?_
 rotate_left
 ·intro w'
  go_simp
  with_reducible rfl
 rotate_left
 ·simp only [Act.put, List.setIfInBounds_toArray, List.set_cons_zero, List.set_cons_succ, i64_w, i32_w]
  rfl
 refine pure_ (i := 12) (N := some 44) (v := ?_) (a' := ?_) #[true, true, true, false, true, true, true, true, false, true, false, false, true, false, false, false, false] rfl rfl (by kernel_rfl) (fun _ _ _ h => h) (Or.inl ⟨by rfl, ?_⟩) ?_ ?_
 rotate_left
 ·intro w'
  go_simp
  with_reducible rfl
 rotate_left
 ·simp only [Act.put, List.setIfInBounds_toArray, List.set_cons_zero, List.set_cons_succ, i64_w, i32_w]
  rfl
 refine take_ (i := 3) (N := some 35) (v := ?_) (a' := ?_) #[true, true, true, true, true, true, true, true, false, true, false, false, true, false, false, false, false] rfl rfl (by kernel_rfl) (fun _ _ _ h => h) (Or.inl ⟨by rfl, ?_⟩) hHeld ?_ ?_
 rotate_left
 ·rintro w' ⟨s0, s1⟩
  go_simp
  with_reducible rfl
 rotate_left
 ·simp only [Act.put, List.setIfInBounds_toArray, List.set_cons_zero, List.set_cons_succ, i64_w, i32_w]
  rfl
 refine take_ (i := 8) (N := some 40) (v := ?_) (a' := ?_) #[true, true, true, true, true, true, true, true, true, true, false, false, true, false, false, false, false] rfl rfl (by kernel_rfl) (fun _ _ _ h => h) (Or.inl ⟨by rfl, ?_⟩) hHeld ?_ ?_
 rotate_left
 ·rintro w' ⟨s0, s1⟩
  go_simp
  with_reducible rfl
 rotate_left
 ·simp only [Act.put, List.setIfInBounds_toArray, List.set_cons_zero, List.set_cons_succ, i64_w, i32_w]
  rfl
 refine pure_ (i := 10) (N := some 42) (v := ?_) (a' := ?_) #[true, true, true, true, true, true, true, true, true, true, true, false, true, false, false, false, false] rfl rfl (by kernel_rfl) (fun _ _ _ h => h) (Or.inl ⟨by rfl, ?_⟩) ?_ ?_
 rotate_left
 ·intro w'
  go_simp
  with_reducible rfl
 rotate_left
 ·simp only [Act.put, List.setIfInBounds_toArray, List.set_cons_zero, List.set_cons_succ, i64_w, i32_w]
  rfl
 refine take_ (i := 11) (N := some 43) (v := ?_) (a' := ?_) #[true, true, true, true, true, true, true, true, true, true, true, true, true, false, false, false, false] rfl rfl (by kernel_rfl) (fun _ _ _ h => h) (Or.inl ⟨by rfl, ?_⟩) hHeld ?_ ?_
 rotate_left
 ·rintro w' ⟨s0, s1⟩
  go_simp
  with_reducible rfl
 rotate_left
 ·simp only [Act.put, List.setIfInBounds_toArray, List.set_cons_zero, List.set_cons_succ, i64_w, i32_w]
  rfl
 refine one_ (i := 13) (N := some 45) #[true, true, true, true, true, true, true, true, true, true, true, true, true, true, false, false, false] rfl rfl (by kernel_rfl) (by decide) (fun K hK => ?_)
 refine value_ (w1 := ?_) (v := ?_) (by rfl) rfl ?_ ?_
 rotate_left 2
 ·go_simp
  first | (refine ⟨?_, ?_⟩ <;> rfl) | rfl
 refine hK.out _ _ ⟨by rw [World.cell?_drew, World.cell?_alloc_old _ _ _ (Nat.ne_of_lt HL3.out.1)]; exact C1.out, by rw [World.cell?_drew, World.cell?_alloc_old _ _ _ (Nat.ne_of_lt HL3.out.2.2)]; exact C2.out⟩ (fun hHeld => ?_)
 clear hK K
 refine norm_ (a' := ?_) ?_ ?_
 rotate_left
 ·show Act.put _ (some 45) _ = _
  simp only [Act.put, List.setIfInBounds_toArray, List.set_cons_zero, List.set_cons_succ, i64_w, i32_w]
  rfl
 refine one_ (i := 14) (N := some 46) #[true, true, true, true, true, true, true, true, true, true, true, true, true, true, true, false, false] rfl rfl (by kernel_rfl) (by decide) (fun K hK => ?_)
 refine Kd.R_append_step (Kd.int .i64) (w0 := w3.drew) B (by rfl) (.tmp 43) (.tmp 45) 51 3 (.int .i64 0) 8 rfl Tryd.underlying51 infoIntN rfl (by decide) (by omega) (vs3 v) (nl ((push1 adj u v) v)) (u : Int) [.int .i64 (u : Int)] (fun _ => True) (fun _ => False) rfl rfl rfl (fun _ hk => hk.elim) (fun _ _ => trivial) (Kd.R_drew (HN3.out.rows v hv)) (Below.refl _ _) (HN3.out.base) ?aL ?_
 (case aL => rw [nl_length]; have := hadj3; omega)
 intro v1 w4 ho hb hg hat
 obtain ⟨A1, c1, eR⟩ := Kd.R_slice ho
 obtain ⟨L1, hL1⟩ : ∃ L1, L1 = (nl ((push1 adj u v) v) ++ [(u : Int)]).length := ⟨_, rfl⟩
 rw [← hL1] at eR
 clear hL1
 subst eR
 have HO := Aside0.mk ho
 have HG := Aside0.mk hg
 have HBb := Aside0.mk hb
 have HAT := Aside0.mk hat
 have g0 := (NetAt.grownCells (HN3.out.below (below_drew1 (Below.refl _ _))) v hv HG.out).1
 have g1 := ((NetAt.grownCells (HN3.out.below (below_drew1 (Below.refl _ _))) v hv HG.out).2 v hv).1
 have gf := ((NetAt.grownCells (HN3.out.below (below_drew1 (Below.refl _ _))) v hv HG.out).2 v hv).2
 clear ho hb hg hat
 refine hK.out _ _ ⟨g0, g1⟩ (fun hHeld => ?_)
 clear hK K
 refine norm_ (a' := ?_) ?_ ?_
 rotate_left
 ·show Act.put _ (some 46) _ = _
  simp only [Act.put, List.setIfInBounds_toArray, List.set_cons_zero, List.set_cons_succ, i64_w, i32_w]
  rfl
 refine pure_ (i := 15) (N := some 47) (v := ?_) (a' := ?_) #[true, true, true, true, true, true, true, true, true, true, true, true, true, true, true, true, false] rfl rfl (by kernel_rfl) (fun _ _ _ h => h) (Or.inl ⟨by rfl, ?_⟩) ?_ ?_
 rotate_left
 ·intro w'
  go_simp
  with_reducible rfl
 rotate_left
 ·simp only [Act.put, List.setIfInBounds_toArray, List.set_cons_zero, List.set_cons_succ, i64_w, i32_w]
  rfl
 refine last_ (i := 16) (N := none) #[true, true, true, true, true, true, true, true, true, true, true, true, true, true, true, true, true] rfl rfl (by kernel_rfl) (by decide) (fun K hK => ?_)
 refine skip_ (w1 := ?_) (by rfl) rfl ?_ ?_
 rotate_left
 ·go_simp
  rfl
 refine hK.out _ _ ?_
 clear hK K
 refine done_ (by kernel_rfl) ?_
 obtain ⟨hn5, hk5⟩ := NetAt.grow (HN3.out.below (below_drew1 (Below.refl _ _))) v u hv (.slice A1 L1 c1) HO.out HG.out HAT.out
 have hbel5 := Below.setCell (p := ⟨xb, v, none⟩) HBb.out HN3.out.bx (.slice A1 L1 c1)
 (try go_wp2)
 go_end0
 exact ⟨rfl, ⟨_, hn5⟩, (HK3.out.trans (NetKeep.of (below_drew1 (Below.refl _ _)) HN3.out.base)).trans ⟨hbel5, hk5⟩⟩
end Go.Proofs.YtiioklboaookiaaDoor.Q
namespace Go.Proofs.YtiioklboaookiaaDoor.Q
open Go.RowKit Go.Proofs.YtiioklboaookiaaDoorW.PrintWords Go.Proofs.YtiioklboaookiaaDoorW.PrintLast Go.Proofs.YtiioklboaookiaaDoor.Hand Go.Proofs.YtiioklboaookiaaDoorW.PrintMore
attribute [local go_sem] max2_int min2_int max_two min_two max_three min_three max_four min_four
set_option linter.unusedVariables false
set_option linter.unusedSimpArgs false
def WayAt (b N : Nat) (way : Nat → Int × Int) (w : World) : Prop :=
 (∀ i, i < N → w.cell? ⟨b, i * 2, none⟩ = some (.int .i64 (way i).1) ∧ w.cell? ⟨b, i * 2 + 1, none⟩ = some (.int .i64 (way i).2)) ∧ (∀ j, w.frozen? ⟨b, j, none⟩ = false) ∧ b < w.heap.size
theorem WayAt.heap {b N : Nat} {way : Nat → Int × Int} {w w1 : World} (h : WayAt b N way w) (he : w1.heap[b]? = w.heap[b]?) (hs : b < w1.heap.size) : WayAt b N way w1 := by
 obtain ⟨h1, h2, h3⟩ := h
 have hc : ∀ j, w1.cell? ⟨b, j, none⟩ = w.cell? ⟨b, j, none⟩ := fun j => by unfold World.cell?; rw [he]
 have hf : ∀ j, w1.frozen? ⟨b, j, none⟩ = w.frozen? ⟨b, j, none⟩ := fun j => by unfold World.frozen?; rw [he]
 exact ⟨fun i hi => by rw [hc, hc]; exact h1 i hi, fun j => by rw [hf]; exact h2 j, hs⟩
theorem WayAt.below {b N : Nat} {way : Nat → Int × Int} {w w1 : World} (h : WayAt b N way w) (hb : Below w.heap.size w w1) : WayAt b N way w1 := h.heap (hb.block b h.2.2) (Nat.lt_of_lt_of_le h.2.2 hb.size)
def setW (way : Nat → Int × Int) (i : Nat) (a : Int × Int) : Nat → Int × Int := fun j => if j = i then a else way j
theorem WayAt.put {b N : Nat} {way : Nat → Int × Int} {w : World} (h : WayAt b N way w) (i : Nat) (hi : i < N) (a : Int × Int) :
  WayAt b N (setW way i a) ((w.setCell ⟨b, i * 2, none⟩ (.int .i64 a.1)).setCell ⟨b, i * 2 + 1, none⟩ (.int .i64 a.2)) := by
 have ne : ∀ {i j : Nat}, i ≠ j → (⟨b, i, none⟩ : Addr) ≠ ⟨b, j, none⟩ := fun h e => h (by injection e)
 obtain ⟨h1, h2, h3⟩ := h
 obtain ⟨g1, g2⟩ := h1 i hi
 refine ⟨fun j hj => ?_, fun j => by simp [h2], by simpa using h3⟩
 obtain ⟨k1, k2⟩ := h1 j hj
 unfold setW
 by_cases e : j = i
 ·subst e
  refine ⟨?_, ?_⟩
  ·rw [World.cell?_setCell_other _ _ _ _ (ne (by omega)), World.cell?_setCell_same _ _ _ g1]; simp
  ·rw [World.cell?_setCell_same _ _ _ (u := .int .i64 (way j).2) (by rw [World.cell?_setCell_other _ _ _ _ (ne (by omega))]; exact g2)]; simp
 ·refine ⟨?_, ?_⟩
  ·rw [World.cell?_setCell_other _ _ _ _ (ne (by omega)), World.cell?_setCell_other _ _ _ _ (ne (by omega)), k1, if_neg e]
  ·rw [World.cell?_setCell_other _ _ _ _ (ne (by omega)), World.cell?_setCell_other _ _ _ _ (ne (by omega)), k2, if_neg e]
theorem Q_one (w : World) (x : Int) (base : Nat) (hb : base ≤ w.heap.size) : Kd.Q (Kd.int .i64) 3 (w.alloc (.cells #[.int .i64 x] 3)) base (fun _ => True) (.slice (some ⟨w.heap.size, 0, none⟩) 1 1) [x] := by
 refine Kd.Q_of_R (Kd.R_of_own (h1 := fun _ => rfl) ?_ (fun _ _ => trivial))
 exact ⟨rfl, .inr ⟨w.heap.size, 1, #[.int .i64 x], rfl, hb, blk_new _ _, by simp, by decide, by simp, by simp [encs]⟩⟩
theorem Q_wayset {w : World} {b : Nat} {v : Value} {xs : List Int} (h : Kd.Q (Kd.int .i64) 3 w (b + 1) (fun _ => True) v xs) (i : Nat) (u : Value) : Kd.Q (Kd.int .i64) 3 (w.setCell ⟨b, i, none⟩ u) (b + 1) (fun _ => True) v xs :=
 Kd.Q_mono (Kd.Q_far (p := ⟨b, i, none⟩) (Kd.Q_bound h) (fun k hk => by have := hk.2.1; show k ≠ b; omega) u) (fun _ _ => trivial)
theorem RoomAt.lookN {b n : Nat} {M : Nat → Nat → Int} {w : World} (h : RoomAt b n M w) {u v : Nat} (hu : u < 100000) (hv : v < 100000) (m : Nat) : (Instr.lookup 143 (.map (some b)) (.agg #[.int .i64 (u : Int), .int .i64 (v : Int)]) false).run Tryd.prog (w.drewN m) = .ok (.int .i64 (M u v)) (w.drewN m) :=
 (h.below (pw_below_drewN (Below.refl _ _) m)).look hu hv
theorem WayAt.pushed {b N : Nat} {way : Nat → Int × Int} {v : Value} {xs : List Int} {w w1 : World} (h : WayAt b N way w) (hq : Kd.Q (Kd.int .i64) 3 w (b + 1) (fun _ => True) v xs) (hg : w.grownBy w1 v.ownBlock) : WayAt b N way w1 := by
 have he : w1.heap[b]? = w.heap[b]? := hg.block b h.2.2 (fun e => by have := Kd.Q_base hq b e.symm; omega)
 exact h.heap he (lt_of_some (he.trans (Array.getElem?_eq_getElem h.2.2)))
theorem eqArc (a b c d : Int) (w : World) : (binOp .eql 137 (.agg #[.int .i64 a, .int .i64 b]) (.agg #[.int .i64 c, .int .i64 d])).run Tryd.prog w = .ok (.bool (decide (a = c ∧ b = d))) w := by
 have hf : (Tryd.prog.fieldsOf 137).toList.map (fun f => (f.name, f.type, f.offset)) = [("from", 3, 0), ("to", 3, 1)] := by kernel_rfl
 have hu : Tryd.prog.underlying 137 = some (.struct (Tryd.prog.fieldsOf 137)) := by unfold Program.fieldsOf; rw [Tryd.underlying137]
 have hp : Tryd.prog.stoodInHeld 137 = false := by kernel_rfl
 have hi := Tryd.underlying3
 rw [run_eql_struct, run_equalIn_agg _ _ _ _ _ hu hp]
 clear hu hp
 generalize (Tryd.prog.fieldsOf 137).toList = fs at hf ⊢
 obtain ⟨f1, f2, rfl⟩ : ∃ f1 f2, fs = [f1, f2] := by
  have hl := congrArg List.length hf
  rw [List.length_map] at hl
  match fs, hl with
  | [f1, f2], _ => exact ⟨f1, f2, rfl⟩
 simp only [List.map_cons, List.map_nil, List.cons.injEq, Prod.mk.injEq, and_true] at hf
 obtain ⟨⟨n1, t1, o1⟩, n2, t2, o2⟩ := hf
 have p1 : ∀ (x y : Int) (w : World), (part 3 #[.int .i64 x, .int .i64 y] 0).run Tryd.prog w = .ok (.int .i64 x) w := fun x y w => by simp [part, sizeOf, typeInfo, hi]
 have p2 : ∀ (x y : Int) (w : World), (part 3 #[.int .i64 x, .int .i64 y] 1).run Tryd.prog w = .ok (.int .i64 y) w := fun x y w => by simp [part, sizeOf, typeInfo, hi]
 have q1 : ∀ (x y : Int) (w : World), (Op.equalIn 9999 3 (.int .i64 x) (.int .i64 y)).run Tryd.prog w = .ok (x == y) w := fun x y w => run_equalIn_int w 9998 _ .i64 .i64 x y hi
 simp only [Op.eqFields, n1, n2, t1, t2, o1, o2, Sem.run_bind, p1, p2, q1, Result.andThen_ok, Sem.run_ite, Sem.run_pure]
 by_cases h1 : a = c <;> by_cases h2 : b = d <;> simp [h1, h2, Sem.run_pure]
theorem gdArc (x y : Operand) (a b : Array Value) (w : World) : (eqGuard .eql 137 x y (.agg a) (.agg b)).run Tryd.prog w = .ok () w := run_eqGuard_agg w _ _ _ _ _ _ (by kernel_rfl)
def NoneAt (w : World) : Prop := w.cell? ⟨0, 0, none⟩ = some (.int .i64 (-1)) ∧ w.cell? ⟨0, 1, none⟩ = some (.int .i64 (-1))
theorem NoneAt.below {w w1 : World} (h : NoneAt w) (hb : Below w.heap.size w w1) : NoneAt w1 := ⟨pw_cell_below hb h.1, pw_cell_below hb h.2⟩
def bStep (M : Nat → Nat → Int) (v : Nat) (st : (Nat → Int × Int) × List Nat) (u : Nat) : (Nat → Int × Int) × List Nat :=
 if st.1 u = (-1, -1) then (if 0 < M v u then (setW st.1 u (v, u), st.2 ++ [u]) else st) else st
def bfs (M : Nat → Nat → Int) (adj : Nat → List Nat) : Nat → (Nat → Int × Int) → List Nat → (Nat → Int × Int)
 | 0, way, _ => way
 | _ + 1, way, [] => way
 | f + 1, way, v :: q => let st := (adj v).foldl (bStep M v) (way, q); bfs M adj f st.1 st.2
def noWay : Nat → Int × Int := fun _ => (-1, -1)
def waysF (M : Nat → Nat → Int) (adj : Nat → List Nat) (N s : Nat) : Nat → Int × Int := bfs M adj N (setW noWay s (s, s)) [s]
def unset (N : Nat) (way : Nat → Int × Int) : Nat := (List.range N).countP (fun i => decide (way i = (-1, -1)))
theorem unset_other (N : Nat) (way way' : Nat → Int × Int) (h : ∀ i, i < N → way i = way' i) : unset N way = unset N way' := by
 unfold unset
 refine List.countP_congr fun x hx => ?_
 rw [h x (List.mem_range.1 hx)]
theorem unset_set (N : Nat) (way : Nat → Int × Int) (u : Nat) (a : Int × Int) (ha : a ≠ (-1, -1)) (hw : way u = (-1, -1)) (hu : u < N) : unset N (setW way u a) + 1 = unset N way := by
 induction N with
 | zero => omega
 | succ N ih =>
  unfold unset at ih ⊢
  rw [List.range_succ, List.countP_append, List.countP_append]
  by_cases e : u = N
  ·subst e
   have h : unset u (setW way u a) = unset u way := unset_other u _ _ (fun i hi => by unfold setW; rw [if_neg (by omega)])
   unfold unset at h
   rw [h]
   simp [setW, ha, hw]
  ·have := ih (by omega)
   have h : setW way u a N = way N := by unfold setW; rw [if_neg (fun e' => e e'.symm)]
   simp only [List.countP_cons, List.countP_nil, h]
   omega
theorem unset_no (N : Nat) : unset N noWay = N := by
 unfold unset noWay
 simp
theorem noWay_at {v u : Nat} : ((v : Int), (u : Int)) ≠ (-1, -1) := fun e => by injection e; omega
theorem bStep_set (M : Nat → Nat → Int) (N v u : Nat) (st : (Nat → Int × Int) × List Nat) (hu : u < N) : unset N (bStep M v st u).1 + (bStep M v st u).2.length = unset N st.1 + st.2.length := by
 unfold bStep
 split
 ·split
  ·have := unset_set N st.1 u (v, u) noWay_at ‹_› hu
   simp; omega
  ·rfl
 ·rfl
def startW (i : Nat) : Nat → Int × Int := fun j => if j < i then (-1, -1) else (0, 0)
theorem startW_succ (i : Nat) : setW (startW i) i (-1, -1) = startW (i + 1) := by
 funext j
 unfold setW startW
 by_cases e : j = i
 ·subst e; simp
 ·rw [if_neg e]
  by_cases h : j < i
  ·rw [if_pos h, if_pos (by omega)]
  ·rw [if_neg h, if_neg (by omega)]
theorem WayAt.start (w : World) (N : Nat) : WayAt w.heap.size N (startW 0) (w.alloc (.cells (madeCells #[.int .i64 0, .int .i64 0] (N * 2)) 137)) := by
 have g : ∀ i, i < N * 2 → (madeCells #[Value.int .i64 0, Value.int .i64 0] (N * 2))[i]? = some (.int .i64 0) := fun i hi => by
  have : i % 2 = 0 ∨ i % 2 = 1 := by omega
  rcases this with e | e <;> simp [madeCells, hi, e]
 refine ⟨fun i hi => ?_, fun j => by simp, by simp⟩
 rw [World.cell?_alloc_new, World.cell?_alloc_new, g _ (by omega), g _ (by omega)]
 exact ⟨rfl, rfl⟩
theorem WayAt.same {b N : Nat} {way way' : Nat → Int × Int} {w : World} (h : WayAt b N way w) (he : ∀ i, i < N → way i = way' i) : WayAt b N way' w := ⟨fun i hi => by rw [← he i hi]; exact h.1 i hi, h.2⟩
set_option maxHeartbeats 8000000 in
set_option maxRecDepth 100000 in
theorem ways_walk (nb mb xb B N n : Nat) (M : Nat → Nat → Int) (adj : Nat → List Nat) (vs : Nat → Value) (w : World) (s : Nat) (h : NetAt nb mb xb B N n M adj vs w) (hN : N ≤ 1000) (hs : s < N) (hz : NoneAt w) (hadj : ∀ i, i < N → ∀ u, u ∈ adj i → u < N) (hlen : ∀ i, (adj i).length < 1000000) :
  Calls Tryd.prog 59 #[.pointer (some ⟨nb, 0, none⟩), .int .i64 s] w fun e w' => e = .returned (.slice (some ⟨w.heap.size, 0, none⟩) N N) ∧ WayAt w.heap.size N (waysF M adj N s) w' ∧ Below w.heap.size w w' := by
 have q1 : w.cell? ⟨nb, 1, none⟩ = some (.slice (some ⟨xb, 0, none⟩) N N) := h.cells.2
 have HN := hid h
 have HZ := hid hz
 have HADJ := hid hadj
 have HLEN := hid hlen
 clear h hz hadj hlen
 have info : (Tryd.prog.info? 137).map (fun i => (i.zero, i.size, i.bytes)) = some (some (.agg #[.int .i64 0, .int .i64 0]), 2, 16) := by kernel_rfl
 have hmk : ∀ w : World, (Instr.makeSlice 135 (.int .i64 N) (.int .i64 N)).run Tryd.prog w = .ok (.slice (some ⟨w.heap.size, 0, none⟩) N N) (w.alloc (.cells (madeCells #[.int .i64 0, .int .i64 0] (N * 2)) 137)) := by
  intro w
  obtain ⟨i0, hi, hzz⟩ := Option.map_eq_some_iff.1 info
  simp only [Prod.mk.injEq] at hzz
  obtain ⟨hz0, hz1, hz2⟩ := hzz
  have hr := run_make (P := Tryd.prog) w 135 137 i0 (.agg #[.int .i64 0, .int .i64 0]) Tryd.underlying135 hi hz0 .i64 .i64 (N : Int) (N : Int) (by omega) (by omega) (by rw [hz2]; omega) (by omega)
  simp only [Int.toNat_natCast] at hr
  rw [hz1] at hr
  exact hr
 clear info
 go_enter Tryd.func59, Tryd.ntmps59
 go_wp2_with (fail)
 clear hmk q1
 obtain ⟨B1, hB⟩ : ∃ B1, B1 = w.heap.size := ⟨_, rfl⟩
 obtain ⟨W1, hW1⟩ : ∃ W1, W1 = w.alloc (.cells (madeCells #[.int .i64 0, .int .i64 0] (N * 2)) 137) := ⟨_, rfl⟩
 have HWY := Aside0.mk (show WayAt B1 N (startW 0) W1 by rw [hB, hW1]; exact WayAt.start w N)
 have HBL := Aside0.mk (show Below B1 w W1 by rw [hB, hW1]; exact below_alloc (Below.refl _ _) _)
 have HBW := hid hB
 rw [← hB, ← hW1]
 clear hB hW1
 go_loopg [19] N (fun kq v19 w' => ∃ (i : Nat), v19 = .int .i64 i ∧ i + kq = N ∧ Aside0 (WayAt B1 N (startW i) w') ∧ Aside0 (Below B1 w w'))
 case atStart => exact ⟨0, rfl, by omega, HWY, HBL⟩
 case round =>
  clear HWY HBL
  obtain ⟨i, rfl, hi, HWY, HBL⟩ := hrel
  by_cases hlt : i < N
  ·have d1 : decide ((i : Int) < (N : Int)) = true := decide_eq_true (by omega)
   obtain ⟨gx, rfl⟩ : ∃ gx, gk = gx + 1 := ⟨gk - 1, by omega⟩
   have s0 : (0 : Int) ≤ (i : Int) := by omega
   have s1 : (i : Int) < (N : Int) := by omega
   have z0 : wr.cell? ⟨0, 0, none⟩ = some (.int .i64 (-1)) := (HZ.out.below (by rw [← HBW.out]; exact HBL.out)).1
   have z1 : wr.cell? ⟨0, 1, none⟩ = some (.int .i64 (-1)) := (HZ.out.below (by rw [← HBW.out]; exact HBL.out)).2
   have c0 := (HWY.out.1 i hlt).1
   have c1 := (HWY.out.1 i hlt).2
   have f0 := HWY.out.2.1
   go_wp2
   go_roundg gx
   case rel => exact ⟨i + 1, by go_num, by omega, ⟨by rw [← startW_succ]; exact HWY.out.put i hlt (-1, -1)⟩, ⟨(HBL.out.setCell (p := ⟨B1, i * 2, none⟩) (Nat.le_refl _) _).setCell (p := ⟨B1, i * 2 + 1, none⟩) (Nat.le_refl _) _⟩⟩
   case measure => omega
  ·have d1 : decide ((i : Int) < (N : Int)) = false := decide_eq_false (by omega)
   obtain rfl : gk = 0 := by omega
   have hiN : N = i := by omega
   subst hiN
   have HWY1 := Aside0.mk (HWY.out.same (way' := noWay) (fun j hj => by unfold startW noWay; rw [if_pos hj]))
   clear HWY
   have s0 : (0 : Int) ≤ (s : Int) := by omega
   have s1 : (s : Int) < (N : Int) := by omega
   have c0 := (HWY1.out.1 s hs).1
   have c1 := (HWY1.out.1 s hs).2
   have f0 := HWY1.out.2.1
   go_wp2
   clear c0 c1 f0 s0 s1
   have HWY2 := Aside0.mk (HWY1.out.put s hs (s, s))
   have HBL2 := Aside0.mk ((HBL.out.setCell (p := ⟨B1, s * 2, none⟩) (Nat.le_refl _) (.int .i64 s)).setCell (p := ⟨B1, s * 2 + 1, none⟩) (Nat.le_refl _) (.int .i64 s))
   clear HWY1 HBL
   obtain ⟨W2, hW2⟩ : ∃ W2, W2 = (wr.setCell ⟨B1, s * 2, none⟩ (.int .i64 s)).setCell ⟨B1, s * 2 + 1, none⟩ (.int .i64 s) := ⟨_, rfl⟩
   have HSZ := hid (show W2.heap.size = wr.heap.size by rw [hW2]; simp)
   rw [← hW2] at HWY2 HBL2 ⊢
   clear hW2
   have hlt2 : B1 < W2.heap.size := HWY2.out.2.2
   have HQ0 := Q_one W2 s (B1 + 1) (by omega)
   rw [HSZ.out] at HQ0
   replace HQ0 := Aside0.mk HQ0
   have HWY3 := Aside0.mk (HWY2.out.below (below_alloc (Below.refl _ _) (.cells #[.int .i64 s] 3)))
   have HBL3 := Aside0.mk (HBL2.out.trans ((below_alloc (Below.refl _ _) (.cells #[.int .i64 s] 3)).mono (Nat.le_of_lt hlt2)))
   clear HWY2 HBL2
   go_loopg [7] N (fun kq v7 w' => ∃ (way : Nat → Int × Int) (q : List Nat), kq ≤ N ∧ unset N way + q.length ≤ kq ∧ Aside0 (Kd.Q (Kd.int .i64) 3 w' (B1 + 1) (fun _ => True) v7 (nl q)) ∧ Aside0 (bfs M adj kq way q = waysF M adj N s) ∧ Aside0 (∀ x, x ∈ q → x < N) ∧ Aside0 (WayAt B1 N way w') ∧ Aside0 (Below B1 w w'))
   case atStart =>
    refine ⟨setW noWay s (s, s), [s], Nat.le_refl _, ?_, HQ0, ⟨rfl⟩, ⟨fun x hx => by rw [List.mem_singleton.1 hx]; exact hs⟩, HWY3, HBL3⟩
    have := unset_set N noWay s (s, s) noWay_at rfl hs
    rw [unset_no] at this
    simp; omega
   case round =>
    clear HWY3 HBL3 HQ0
    obtain ⟨way, q, hkN, hk, HQ, HF, HM, HWY, HBL⟩ := hrel
    obtain ⟨A1, c1, eR, hc1⟩ := Kd.Q_slice HQ.out
    cases q with
    | nil =>
     subst eR
     have HF2 : Hid (way = waysF M adj N s) := by
      show _ = _
      rw [← HF.out]
      cases gk <;> rfl
     clear HF
     go_wp2
     go_ret
     rw [← HBW.out]
     exact ⟨rfl, by rw [← HF2.out]; exact HWY.out, HBL.out⟩
    | cons v q =>
     subst eR
     obtain ⟨g1, rfl⟩ : ∃ g1, gk = g1 + 1 := ⟨gk - 1, by simp at hk; omega⟩
     have hm1 : ((nl (v :: q)).length) = q.length + 1 := by simp [nl]
     have hQr := (Kd.Q_reads' HQ.out).2.2
     rw [hm1] at hQr
     obtain ⟨ad, e0, r0⟩ := Kd.at_int hQr 0 (by omega) (by omega)
     have er : rd (nl (v :: q)) 0 = (v : Int) := by simp [rd, nl]
     rw [er] at r0
     have ea : ad.add (0 : Int).toNat = ad := by unfold Addr.add; split <;> simp_all
     rw [ea] at r0
     clear ea
     clear hQr er
     subst e0
     obtain ⟨i0, hi0, hiz⟩ := Option.map_eq_some_iff.1 infoIntN
     simp only [Prod.mk.injEq] at hiz
     have hcut := cut_from (P := Tryd.prog) 51 3 .i64 Tryd.underlying51 hi0 1 hiz.2.1 (some ad) (q.length + 1) c1 1 (by omega) (by omega)
     have HQ2 := Kd.Q_drop (k := 1) HQ.out (by rw [hm1]; omega)
     rw [hm1] at HQ2
     have e1 : (nl (v :: q)).drop 1 = nl q := by simp [nl]
     rw [e1] at HQ2
     clear e1 hiz hi0
     obtain ⟨A2, hA2⟩ : ∃ A2, A2 = (if c1 = 1 then (some ad : Option Addr) else (some ad : Option Addr).map (·.add (1 * (Kd.int .i64).sz))) := ⟨_, rfl⟩
     rw [← hA2] at HQ2
     have hA3 : A2 = (if c1 = (1 : Int).toNat then (some ad : Option Addr) else (some ad : Option Addr).map (·.add ((1 : Int).toNat * 1))) := hA2
     rw [← hA3] at hcut
     clear hA2 hA3
     have e2 : q.length + 1 - (1 : Int).toNat = q.length := rfl
     have e3 : c1 - (1 : Int).toNat = c1 - 1 := rfl
     have e4 : q.length + 1 - 1 = q.length := rfl
     rw [e2, e3] at hcut
     rw [e4] at HQ2
     clear e2 e3 e4
     obtain ⟨c2, hc2⟩ : ∃ c2, c2 = c1 - 1 := ⟨_, rfl⟩
     rw [← hc2] at hcut HQ2
     clear hc2
     replace HQ2 := Aside0.mk HQ2
     rw [hm1] at hc1 HQ ⊢
     clear HQ
     have hvN : v < N := HM.out v List.mem_cons_self
     have HN1 := hid (HN.out.below (by rw [← HBW.out]; exact HBL.out))
     have q1 : wr.cell? ⟨nb, 1, none⟩ = some (.slice (some ⟨xb, 0, none⟩) N N) := HN1.out.cells.2
     have q2 : wr.cell? ⟨xb, v, none⟩ = some (vs v) := (HN1.out.rowAt v hvN).1
     obtain ⟨Av, cv, eV⟩ := Kd.R_slice (HN1.out.rows v hvN)
     rw [nl_length] at eV
     rw [eV] at q2
     have HRV := Kd.R_reads' (eV ▸ HN.out.rows v hvN)
     replace HRV := Aside0.mk HRV.2.2
     have v0 : (0 : Int) ≤ (v : Int) := by omega
     have v1 : (v : Int) < (N : Int) := by omega
     go_wp2
     clear hcut r0 q1 q2 v0 v1 hc1 eV HN1
     have hlen1 : (adj v).length < 1000000 := HLEN.out v
     have HF1 : Hid (bfs M adj g1 ((adj v).foldl (bStep M v) (way, q)).1 ((adj v).foldl (bStep M v) (way, q)).2 = waysF M adj N s) := HF.out
     have HM1 : Aside0 (∀ x, x ∈ q → x < N) := ⟨fun x hx => HM.out x (List.mem_cons_of_mem _ hx)⟩
     clear HF HM
     go_loopg [7, 51] (adj v).length (fun kq v7 v51 w' => ∃ (j : Nat) (way1 : Nat → Int × Int) (q1 : List Nat), v51 = .int .i64 j ∧ j + kq = (adj v).length ∧ unset N way1 + q1.length ≤ g1 ∧ Aside0 (((adj v).drop j).foldl (bStep M v) (way1, q1) = (adj v).foldl (bStep M v) (way, q)) ∧ Aside0 (Kd.Q (Kd.int .i64) 3 w' (B1 + 1) (fun _ => True) v7 (nl q1)) ∧ Aside0 (∀ x, x ∈ q1 → x < N) ∧ Aside0 (WayAt B1 N way1 w') ∧ Aside0 (Below B1 w w'))
     case atStart => exact ⟨0, way, q, rfl, by omega, by simp at hk; omega, ⟨rfl⟩, HQ2, HM1, HWY, HBL⟩
     case round =>
      clear HWY HBL HQ2 HM1
      obtain ⟨j, way1, q1, rfl, hj, hk1, HFd, HQ, HM, HWY, HBL⟩ := hrel
      obtain ⟨A1, c1, eR, hc1⟩ := Kd.Q_slice HQ.out
      rw [nl_length] at eR hc1
      subst eR
      by_cases hlj : j < (adj v).length
      ·have d1 : decide ((j : Int) < ((adj v).length : Int)) = true := decide_eq_true (by omega)
       obtain ⟨u, hu⟩ : ∃ u, u = (adj v)[j] := ⟨_, rfl⟩
       obtain ⟨au, e0, r0⟩ := Kd.at_int (by have h := HRV.out; rw [nl_length] at h; exact h) (j : Int) (by omega) (by omega)
       rw [nl_rd _ _ hlj, ← hu, Int.toNat_natCast] at r0
       subst e0
       replace r0 := (HBL.out.cell (by rw [HBW.out]; exact World.block_lt_of_cell? w _ r0)).trans r0
       have huN : u < N := HADJ.out v hvN u (by rw [hu]; exact List.getElem_mem _)
       have hdrop : (adj v).drop j = u :: (adj v).drop (j + 1) := by rw [hu]; exact List.drop_eq_getElem_cons hlj
       have HFe := HFd.out
       rw [hdrop, List.foldl_cons] at HFe
       replace HFe := hid HFe
       clear HFd hdrop hu
       have HLJ := hid hlj
       have s0 : (0 : Int) ≤ (u : Int) := by omega
       have s1 : (u : Int) < (N : Int) := by omega
       have s2 : (0 : Int) ≤ (j : Int) := by omega
       have s3 : (j : Int) < ((adj v).length : Int) := by omega
       have HN1 := hid (HN.out.below (by rw [← HBW.out]; exact HBL.out))
       have q0 : wr.cell? ⟨nb, 0, none⟩ = some (.map (some mb)) := HN1.out.cells.1
       have z0 : wr.cell? ⟨0, 0, none⟩ = some (.int .i64 (-1)) := (HZ.out.below (by rw [← HBW.out]; exact HBL.out)).1
       have z1 : wr.cell? ⟨0, 1, none⟩ = some (.int .i64 (-1)) := (HZ.out.below (by rw [← HBW.out]; exact HBL.out)).2
       have hlook := HN1.out.room.lookN (u := v) (v := u) (by omega) (by omega)
       have k0 := (HWY.out.1 u huN).1
       have k1 := (HWY.out.1 u huN).2
       by_cases hw : way1 u = (-1, -1)
       ·rw [hw] at k0 k1
        have heq : ∀ w, (binOp .eql 137 (.agg #[.int .i64 (-1), .int .i64 (-1)]) (.agg #[.int .i64 (-1), .int .i64 (-1)])).run Tryd.prog w = .ok (.bool true) w := fun w => by rw [eqArc]; rfl
        have hgd := fun x y w => gdArc x y #[.int .i64 (-1), .int .i64 (-1)] #[.int .i64 (-1), .int .i64 (-1)] w
        by_cases hm : 0 < M v u
        ·have d2 : decide (0 < M v u) = true := decide_eq_true hm
         go_wp2_with (fail)
         go_quiet (fail)
         obtain ⟨W3, hW3⟩ : ∃ W3, W3 = wr.drewN nq := ⟨_, rfl⟩
         have hb3 : Below wr.heap.size wr W3 := by rw [hW3]; exact pw_below_drewN (Below.refl _ _) nq
         rw [← hW3]
         clear hW3
         have hltB : B1 < wr.heap.size := HWY.out.2.2
         have HWY3 := Aside0.mk (HWY.out.below hb3)
         have HBL3 := Aside0.mk (HBL.out.trans (hb3.mono (Nat.le_of_lt hltB)))
         have HQ3 := Aside0.mk (Kd.Q_below HQ.out hb3)
         clear HWY HBL HQ q0 z0 z1 r0 k0 k1 hlook heq hgd HN1 hb3 hltB
         have k0 := (HWY3.out.1 u huN).1
         have k1 := (HWY3.out.1 u huN).2
         have f0 := HWY3.out.2.1
         have HQ4 := Aside0.mk (Q_wayset (Q_wayset HQ3.out (u * 2) (.int .i64 v)) (u * 2 + 1) (.int .i64 u))
         have HWY4 := Aside0.mk (HWY3.out.put u huN (v, u))
         have HBL4 := Aside0.mk ((HBL3.out.setCell (p := ⟨B1, u * 2, none⟩) (Nat.le_refl _) (.int .i64 v)).setCell (p := ⟨B1, u * 2 + 1, none⟩) (Nat.le_refl _) (.int .i64 u))
         clear HWY3 HQ3 HBL3
         have hbq : B1 + 1 ≤ W3.heap.size := by have := HWY4.out.2.2; simp at this; omega
         have hq1 : q1.length ≤ 1000 := by omega
         go_wp2_with ((with_reducible refine gate_builtin (b := .append) (xs := #[.tmp 78, .tmp 80]) rfl ?_); at_builtin; refine Kd.Q_append (Kd.int .i64) (w0 := ((W3.setCell ⟨B1, u * 2, none⟩ (.int .i64 v)).setCell ⟨B1, u * 2 + 1, none⟩ (.int .i64 u))) (B1 + 1) rfl (.tmp 78) (.tmp 80) 51 3 (.int .i64 0) 8 rfl Tryd.underlying51 infoIntN rfl (by decide) (by omega) (.slice A1 q1.length c1) (nl q1) (u : Int) [.int .i64 (u : Int)] (fun _ => True) (fun _ => False) rfl (by first | (go_simp; done) | (go_simp; rfl)) rfl (fun _ hk => hk.elim) (fun _ _ => trivial) HQ4.out (Below.refl _ _) ?aS ?aL ?_; (case aS => simpa using hbq); (case aL => rw [nl_length]; omega); intro v6 w6 ho hb hg hat; have HO6 := Aside0.mk ho; have HB6 := Aside0.mk hb; have HG6 := Aside0.mk hg; clear ho hb hg hat)
         go_roundg ((adj v).length - (j + 1))
         case rel =>
          have hst : bStep M v (way1, q1) u = (setW way1 u (v, u), q1 ++ [u]) := by unfold bStep; rw [if_pos hw, if_pos hm]
          have hin := bStep_set M N v u (way1, q1) huN
          rw [hst] at hin
          refine ⟨j + 1, setW way1 u (v, u), q1 ++ [u], by go_num, by have := HLJ.out; omega, by dsimp only at hin; omega, ⟨by rw [← hst]; exact HFe.out⟩, ⟨?_⟩, ⟨fun x hx => ?_⟩, ⟨HWY4.out.pushed HQ4.out HG6.out⟩, ⟨?_⟩⟩
          ·rw [← nl_snoc]; exact HO6.out
          ·rcases List.mem_append.1 hx with hx | hx
           ·exact HM.out x hx
           ·rw [List.mem_singleton.1 hx]; exact huN
          ·exact HBL4.out.trans (HB6.out.mono (Nat.le_succ B1))
         case measure => omega
        ·have d2 : decide (0 < M v u) = false := decide_eq_false hm
         have HFe2 : Hid (((adj v).drop (j + 1)).foldl (bStep M v) (way1, q1) = (adj v).foldl (bStep M v) (way, q)) := by
          have h := HFe.out
          unfold bStep at h
          rw [if_pos hw, if_neg hm] at h
          exact h
         clear HFe
         go_wp2_with (fail)
         go_quiet (fail)
         obtain ⟨W3, hW3⟩ : ∃ W3, W3 = wr.drewN nq := ⟨_, rfl⟩
         have hb3 : Below wr.heap.size wr W3 := by rw [hW3]; exact pw_below_drewN (Below.refl _ _) nq
         rw [← hW3]
         clear hW3
         have hltB : B1 < wr.heap.size := HWY.out.2.2
         have HWY3 := Aside0.mk (HWY.out.below hb3)
         have HBL3 := Aside0.mk (HBL.out.trans (hb3.mono (Nat.le_of_lt hltB)))
         have HQ3 := Aside0.mk (Kd.Q_below HQ.out hb3)
         clear HWY HBL HQ
         go_wp2
         go_roundg ((adj v).length - (j + 1))
         case rel => exact ⟨j + 1, way1, q1, by go_num, by have := HLJ.out; omega, hk1, ⟨HFe2.out⟩, HQ3, HM, HWY3, HBL3⟩
         case measure => omega
       ·obtain ⟨a, ha⟩ : ∃ a, a = way1 u := ⟨_, rfl⟩
        rw [← ha] at hw k0 k1
        have HA := hid ha
        clear ha
        have hab : ¬ (a.1 = -1 ∧ a.2 = -1) := fun h => hw (Prod.ext h.1 h.2)
        have heq : ∀ w, (binOp .eql 137 (.agg #[.int .i64 a.1, .int .i64 a.2]) (.agg #[.int .i64 (-1), .int .i64 (-1)])).run Tryd.prog w = .ok (.bool false) w := fun w => by rw [eqArc, decide_eq_false hab]
        have hgd := fun x y w => gdArc x y #[.int .i64 a.1, .int .i64 a.2] #[.int .i64 (-1), .int .i64 (-1)] w
        have HFe2 : Hid (((adj v).drop (j + 1)).foldl (bStep M v) (way1, q1) = (adj v).foldl (bStep M v) (way, q)) := by
         have h := HFe.out
         have hn : ¬ (way1 u = (-1, -1)) := by rw [← HA.out]; exact hw
         unfold bStep at h
         rw [if_neg hn] at h
         exact h
        clear HFe hw hab
        go_wp2_with (fail)
        go_quiet (fail)
        obtain ⟨W3, hW3⟩ : ∃ W3, W3 = wr.drewN nq := ⟨_, rfl⟩
        have hb3 : Below wr.heap.size wr W3 := by rw [hW3]; exact pw_below_drewN (Below.refl _ _) nq
        rw [← hW3]
        clear hW3
        have hltB : B1 < wr.heap.size := HWY.out.2.2
        have HWY3 := Aside0.mk (HWY.out.below hb3)
        have HBL3 := Aside0.mk (HBL.out.trans (hb3.mono (Nat.le_of_lt hltB)))
        have HQ3 := Aside0.mk (Kd.Q_below HQ.out hb3)
        clear HWY HBL HQ
        go_wp2
        go_roundg ((adj v).length - (j + 1))
        case rel => exact ⟨j + 1, way1, q1, by go_num, by have := HLJ.out; omega, hk1, ⟨HFe2.out⟩, HQ3, HM, HWY3, HBL3⟩
        case measure => omega
      ·have d1 : decide ((j : Int) < ((adj v).length : Int)) = false := decide_eq_false (by omega)
       have HFd2 : Hid ((adj v).foldl (bStep M v) (way, q) = (way1, q1)) := by
        have h := HFd.out
        rw [List.drop_eq_nil_of_le (by omega)] at h
        exact h.symm
       clear HFd
       go_wp2
       go_roundg g1
       case rel =>
        refine ⟨way1, q1, by omega, hk1, HQ, ⟨?_⟩, HM, HWY, HBL⟩
        have h := HF1.out
        rw [HFd2.out] at h
        exact h
       case measure => omega
end Go.Proofs.YtiioklboaookiaaDoor.Q
namespace Go.Proofs.YtiioklboaookiaaDoor.Q
open Go.RowKit Go.Proofs.YtiioklboaookiaaDoorW.PrintWords Go.Proofs.YtiioklboaookiaaDoorW.PrintLast Go.Proofs.YtiioklboaookiaaDoor.Hand Go.Proofs.YtiioklboaookiaaDoorW.PrintMore
attribute [local go_sem] max2_int min2_int max_two min_two max_three min_three max_four min_four
set_option linter.unusedVariables false
set_option linter.unusedSimpArgs false
def Tree (M : Nat → Nat → Int) (N s : Nat) (way : Nat → Int × Int) (d : Nat → Nat) : Prop :=
 way s = ((s : Int), (s : Int)) ∧ (∀ v, v < N → way v ≠ (-1, -1) → v ≠ s → ∃ p, p < N ∧ way v = ((p : Int), (v : Int)) ∧ 0 < M p v ∧ way p ≠ (-1, -1) ∧ d p < d v) ∧ ∀ x, d x + unset N way ≤ N
theorem Tree.set {M : Nat → Nat → Int} {N s : Nat} {way : Nat → Int × Int} {d : Nat → Nat} (h : Tree M N s way d) {v u : Nat} (hv : v < N) (hw : way v ≠ (-1, -1)) (hu : way u = (-1, -1)) (hm : 0 < M v u) (huN : u < N) : ∃ d', Tree M N s (setW way u (v, u)) d' := by
 have hus : u ≠ s := fun e => by rw [e, h.1] at hu; exact noWay_at hu
 have hvu : v ≠ u := fun e => hw (e ▸ hu)
 refine ⟨fun x => if x = u then d v + 1 else d x, ?_, fun x hx hxw hxs => ?_, fun x => ?_⟩
 ·unfold setW; rw [if_neg (fun e => hus e.symm)]; exact h.1
 ·by_cases e : x = u
  ·subst e
   refine ⟨v, hv, ?_, hm, ?_, ?_⟩
   ·unfold setW; rw [if_pos rfl]
   ·unfold setW; rw [if_neg hvu]; exact hw
   ·simp [hvu]
  ·have hx2 : setW way u (v, u) x = way x := by unfold setW; rw [if_neg e]
   rw [hx2] at hxw
   obtain ⟨p, h1, h2, h3, h4, h5⟩ := h.2.1 x hx hxw hxs
   have hpu : p ≠ u := fun e' => h4 (e' ▸ hu)
   refine ⟨p, h1, by rw [hx2]; exact h2, h3, ?_, ?_⟩
   ·unfold setW; rw [if_neg hpu]; exact h4
   ·simp [hpu, e]; exact h5
 ·have h1 := unset_set N way u ((v : Int), (u : Int)) noWay_at hu huN
  have h2 := h.2.2 x
  have h3 := h.2.2 v
  dsimp only
  split <;> omega
theorem fold_tree (M : Nat → Nat → Int) (N s v : Nat) (hv : v < N) (l : List Nat) : ∀ (way : Nat → Int × Int) (q : List Nat) (d : Nat → Nat), Tree M N s way d → way v ≠ (-1, -1) → (∀ x, x ∈ q → x < N ∧ way x ≠ (-1, -1)) → (∀ u, u ∈ l → u < N) →
  (∃ d', Tree M N s (l.foldl (bStep M v) (way, q)).1 d') ∧ (∀ x, way x ≠ (-1, -1) → (l.foldl (bStep M v) (way, q)).1 x ≠ (-1, -1)) ∧ (∀ x, x ∈ (l.foldl (bStep M v) (way, q)).2 → x < N ∧ (l.foldl (bStep M v) (way, q)).1 x ≠ (-1, -1)) ∧
   (∀ u, u ∈ l → 0 < M v u → (l.foldl (bStep M v) (way, q)).1 u ≠ (-1, -1)) ∧ (∀ x, x ∈ q → x ∈ (l.foldl (bStep M v) (way, q)).2) ∧ (∀ x, (l.foldl (bStep M v) (way, q)).1 x ≠ (-1, -1) → way x ≠ (-1, -1) ∨ x ∈ (l.foldl (bStep M v) (way, q)).2) ∧
   unset N (l.foldl (bStep M v) (way, q)).1 + (l.foldl (bStep M v) (way, q)).2.length = unset N way + q.length := by
 induction l with
 | nil => intro way q d h hw hq _; exact ⟨⟨d, h⟩, fun _ h => h, hq, fun u hu => absurd hu (by simp), fun _ h => h, fun _ h => .inl h, rfl⟩
 | cons u l ih =>
  intro way q d h hw hq hl
  rw [List.foldl_cons]
  have hu : u < N := hl u List.mem_cons_self
  have hl2 : ∀ u, u ∈ l → u < N := fun x hx => hl x (List.mem_cons_of_mem _ hx)
  by_cases h1 : way u = (-1, -1)
  ·by_cases h2 : 0 < M v u
   ·have hst : bStep M v (way, q) u = (setW way u (v, u), q ++ [u]) := by unfold bStep; rw [if_pos h1, if_pos h2]
    have hun := bStep_set M N v u (way, q) hu
    rw [hst] at hun ⊢
    obtain ⟨d', ht⟩ := h.set hv hw h1 h2 hu
    have hset : ∀ x, way x ≠ (-1, -1) → setW way u (v, u) x ≠ (-1, -1) := fun x hx => by
     unfold setW; split
     ·exact noWay_at
     ·exact hx
    have huu : setW way u ((v : Int), (u : Int)) u ≠ (-1, -1) := by unfold setW; rw [if_pos rfl]; exact noWay_at
    obtain ⟨g1, g2, g3, g4, g5, g6, g7⟩ := ih _ _ d' ht (hset v hw) (fun x hx => by
     rcases List.mem_append.1 hx with hx | hx
     ·exact ⟨(hq x hx).1, hset x (hq x hx).2⟩
     ·rw [List.mem_singleton.1 hx]; exact ⟨hu, huu⟩) hl2
    refine ⟨g1, fun x hx => g2 x (hset x hx), g3, fun x hx hm => ?_, fun x hx => g5 x (List.mem_append_left _ hx), fun x hx => ?_, by rw [g7]; exact hun⟩
    ·rcases List.mem_cons.1 hx with e | hx
     ·rw [e]; exact g2 u huu
     ·exact g4 x hx hm
    ·rcases g6 x hx with h | h
     ·by_cases e : x = u
      ·rw [e]; exact .inr (g5 u (List.mem_append_right _ (List.mem_singleton.2 rfl)))
      ·refine .inl ?_
       unfold setW at h; rw [if_neg e] at h; exact h
     ·exact .inr h
   ·have hst : bStep M v (way, q) u = (way, q) := by unfold bStep; rw [if_pos h1, if_neg h2]
    rw [hst]
    obtain ⟨g1, g2, g3, g4, g5, g6, g7⟩ := ih _ _ d h hw hq hl2
    refine ⟨g1, g2, g3, fun x hx hm => ?_, g5, g6, g7⟩
    rcases List.mem_cons.1 hx with e | hx
    ·rw [e] at hm; exact absurd hm h2
    ·exact g4 x hx hm
  ·have hst : bStep M v (way, q) u = (way, q) := by unfold bStep; rw [if_neg h1]
   rw [hst]
   obtain ⟨g1, g2, g3, g4, g5, g6, g7⟩ := ih _ _ d h hw hq hl2
   refine ⟨g1, g2, g3, fun x hx hm => ?_, g5, g6, g7⟩
   rcases List.mem_cons.1 hx with e | hx
   ·rw [e]; exact g2 u h1
   ·exact g4 x hx hm
theorem bfs_tree (M : Nat → Nat → Int) (adj : Nat → List Nat) (N s : Nat) (hadj : ∀ i, i < N → ∀ u, u ∈ adj i → u < N) (f : Nat) : ∀ (way : Nat → Int × Int) (q : List Nat) (d : Nat → Nat), Tree M N s way d → (∀ x, x ∈ q → x < N ∧ way x ≠ (-1, -1)) → unset N way + q.length ≤ f →
  (∀ v, v < N → way v ≠ (-1, -1) → v ∈ q ∨ ∀ u, u ∈ adj v → 0 < M v u → way u ≠ (-1, -1)) →
  (∃ d', Tree M N s (bfs M adj f way q) d') ∧ ∀ v, v < N → bfs M adj f way q v ≠ (-1, -1) → ∀ u, u ∈ adj v → 0 < M v u → bfs M adj f way q u ≠ (-1, -1) := by
 induction f with
 | zero =>
  intro way q d h hq hf hc
  have hq0 : q = [] := List.length_eq_zero_iff.1 (by omega)
  subst hq0
  refine ⟨⟨d, h⟩, fun v hv hw => ?_⟩
  rcases hc v hv hw with h | h
  ·exact absurd h (by simp)
  ·exact h
 | succ f ih =>
  intro way q d h hq hf hc
  cases q with
  | nil =>
   refine ⟨⟨d, h⟩, fun v hv hw => ?_⟩
   rcases hc v hv hw with h | h
   ·exact absurd h (by simp)
   ·exact h
  | cons v q =>
   obtain ⟨hv, hvw⟩ := hq v List.mem_cons_self
   obtain ⟨⟨d', g1⟩, g2, g3, g4, g5, g6, g7⟩ := fold_tree M N s v hv (adj v) way q d h hvw (fun x hx => hq x (List.mem_cons_of_mem _ hx)) (hadj v hv)
   refine ih _ _ d' g1 g3 ?_ fun x hx hxw => ?_
   ·rw [g7]; simp at hf; omega
   ·by_cases e : x = v
    ·subst e; exact .inr g4
    ·rcases g6 x hxw with h | h
     ·rcases hc x hx h with h' | h'
      ·rcases List.mem_cons.1 h' with h' | h'
       ·exact absurd h' e
       ·exact .inl (g5 x h')
      ·exact .inr fun u hu hm => g2 u (h' u hu hm)
     ·exact .inl h
theorem waysF_tree (M : Nat → Nat → Int) (adj : Nat → List Nat) (N s : Nat) (hs : s < N) (hadj : ∀ i, i < N → ∀ u, u ∈ adj i → u < N) :
  (∃ d, Tree M N s (waysF M adj N s) d) ∧ ∀ v, v < N → waysF M adj N s v ≠ (-1, -1) → ∀ u, u ∈ adj v → 0 < M v u → waysF M adj N s u ≠ (-1, -1) := by
 have hne : ∀ x, x ≠ s → setW noWay s ((s : Int), (s : Int)) x = (-1, -1) := fun x hx => by unfold setW noWay; rw [if_neg hx]
 have hss : setW noWay s ((s : Int), (s : Int)) s = ((s : Int), (s : Int)) := by unfold setW; rw [if_pos rfl]
 refine bfs_tree M adj N s hadj N _ _ (fun _ => 0) ⟨hss, fun v _ hw hvs => absurd (hne v hvs) hw, fun x => ?_⟩ ?_ ?_ ?_
 ·have := unset_set N noWay s (s, s) noWay_at rfl hs
  rw [unset_no] at this
  show 0 + _ ≤ N
  omega
 ·intro x hx
  rw [List.mem_singleton.1 hx, hss]
  exact ⟨hs, noWay_at⟩
 ·have := unset_set N noWay s (s, s) noWay_at rfl hs
  rw [unset_no] at this
  simp; omega
 ·intro v _ hw
  by_cases e : v = s
  ·subst e; exact .inl (List.mem_singleton.2 rfl)
  ·exact absurd (hne v e) hw
def rowS (M : Nat → Nat → Int) (x : Nat) : Nat → Int
 | 0 => 0
 | n + 1 => rowS M x n + M x n
theorem rowS_upd (M : Nat → Nat → Int) (a b : Nat) (y : Int) (x n : Nat) : rowS (upd M a b y) x n = rowS M x n + (if x = a ∧ b < n then y - M a b else 0) := by
 induction n with
 | zero => simp [rowS]
 | succ n ih =>
  unfold rowS
  rw [ih]
  unfold upd
  by_cases h1 : x = a
  ·subst h1
   by_cases h2 : b < n
   ·simp [h2, show n ≠ b by omega, show b < n + 1 by omega]; omega
   ·by_cases h3 : n = b
    ·subst h3; simp; omega
    ·simp [h2, h3, show ¬ b < n + 1 by omega]
  ·simp [h1]
theorem rowS_nonneg (M : Nat → Nat → Int) (x n : Nat) (h : ∀ u, 0 ≤ M x u) : 0 ≤ rowS M x n := by
 induction n with
 | zero => simp [rowS]
 | succ n ih => unfold rowS; have := h n; omega
structure Aug (M M2 : Nat → Nat → Int) (N s t : Nat) (way : Nat → Int × Int) (d : Nat → Nat) (most : Int) (v : Nat) : Prop where
 pos : ∀ x y, 0 ≤ M2 x y
 sym : ∀ x y, M2 x y + M2 y x = M x y + M y x
 old : ∀ x y, d x < d y → d y ≤ d v → M2 x y = M x y
 row : ∀ x, x < N → rowS M2 x N = rowS M x N + (if x = t then most else 0) - (if x = v then most else 0)
theorem Aug.step {M M2 : Nat → Nat → Int} {N s t : Nat} {way : Nat → Int × Int} {d : Nat → Nat} {most : Int} {v p : Nat} (h : Aug M M2 N s t way d most v) (hv : v < N) (hp : p < N) (hd : d p < d v) (h0 : 0 ≤ most) (hm : most ≤ M p v) :
  Aug M (upd (upd M2 p v (M2 p v - most)) v p (upd M2 p v (M2 p v - most) v p + most)) N s t way d most p := by
 have hpv : ¬ (v = p) := fun e => by rw [e] at hd; omega
 have e1 : upd M2 p v (M2 p v - most) v p = M2 v p := by unfold upd; rw [if_neg (by omega)]
 have hMp : M2 p v = M p v := h.old p v hd (Nat.le_refl _)
 rw [e1]
 have val : ∀ x y, upd (upd M2 p v (M2 p v - most)) v p (M2 v p + most) x y = if x = v ∧ y = p then M2 v p + most else if x = p ∧ y = v then M2 p v - most else M2 x y := fun x y => rfl
 refine ⟨fun x y => ?_, fun x y => ?_, fun x y h1 h2 => ?_, fun x hx => ?_⟩
 ·rw [val]
  have := h.pos v p; have := h.pos x y
  split
  ·omega
  ·split
   ·omega
   ·omega
 ·rw [val, val]
  have := h.sym x y
  by_cases a1 : x = v ∧ y = p
  ·obtain ⟨rfl, rfl⟩ := a1
   rw [if_pos ⟨rfl, rfl⟩, if_neg (by omega), if_pos ⟨rfl, rfl⟩]; omega
  ·rw [if_neg a1]
   by_cases a2 : x = p ∧ y = v
   ·obtain ⟨rfl, rfl⟩ := a2
    rw [if_pos ⟨rfl, rfl⟩, if_pos ⟨rfl, rfl⟩]; omega
   ·rw [if_neg a2, if_neg (by omega), if_neg (by omega)]; exact this
 ·rw [val, if_neg (fun e => by rw [e.1] at h1; omega), if_neg (fun e => by rw [e.2] at h2; omega)]
  exact h.old x y h1 (by omega)
 ·rw [rowS_upd, rowS_upd, h.row x hx, e1]
  by_cases a1 : x = v
  ·subst a1
   simp [hpv, hp]; omega
  ·by_cases a2 : x = p
   ·subst a2
    simp [hv, a1]; omega
   ·simp [a1, a2]
end Go.Proofs.YtiioklboaookiaaDoor.Q
namespace Go.Proofs.YtiioklboaookiaaDoor.Q
open Go.RowKit Go.Proofs.YtiioklboaookiaaDoorW.PrintWords Go.Proofs.YtiioklboaookiaaDoorW.PrintLast Go.Proofs.YtiioklboaookiaaDoor.Hand Go.Proofs.YtiioklboaookiaaDoorW.PrintMore
attribute [local go_sem] max2_int min2_int max_two min_two max_three min_three max_four min_four
set_option linter.unusedVariables false
set_option linter.unusedSimpArgs false
set_option maxRecDepth 100000 in
theorem bwithin_yes {a lo hi : Int} (h1 : lo ≤ a) (h2 : a ≤ hi) (w : World) : Calls Tryd.prog 26 #[.int .i64 a, .int .i64 lo, .int .i64 hi] w fun e w' => e = .returned (.bool true) ∧ w' = w := by
 have d1 : decide (lo ≤ a) = true := decide_eq_true h1
 have d2 : decide (a ≤ hi) = true := decide_eq_true h2
 clear h1 h2
 go_enter Tryd.func26, Tryd.ntmps26
 go_wp2_with (fail)
 go_ret
 exact ⟨rfl, rfl⟩
def jobOk (b : S34) : Bool := decide (0 ≤ b.f0 ∧ b.f0 < b.f1 ∧ b.f1 ≤ 1000 ∧ 1 ≤ b.f2 ∧ b.f2 ≤ 1000)
set_option maxHeartbeats 4000000 in
set_option maxRecDepth 100000 in
theorem isJob_yes (j : S34) (h : jobOk j = true) (w : World) : Calls Tryd.prog 29 #[.agg #[.int .i64 j.f0, .int .i64 j.f1, .int .i64 j.f2]] w fun e w' => e = .returned (.bool true) ∧ Below w.heap.size w w' := by
 obtain ⟨h1, h2, h3, h4, h5⟩ := of_decide_eq_true h
 have d1 : decide (j.f0 < j.f1) = true := decide_eq_true h2
 clear h
 go_enter Tryd.func29, Tryd.ntmps29
 go_wp2_with (fail)
 refine (bwithin_yes (a := j.f0) (by omega) (by omega) _).mono ?_
 rintro e w1 ⟨rfl, rfl⟩
 go_wp2_with (fail)
 refine (bwithin_yes (a := j.f1) (by omega) (by omega) _).mono ?_
 rintro e w1 ⟨rfl, rfl⟩
 go_wp2_with (fail)
 refine (bwithin_yes (a := j.f2) (by omega) (by omega) _).mono ?_
 rintro e w1 ⟨rfl, rfl⟩
 go_wp2_with (fail)
 go_ret
 exact ⟨rfl, below_alloc (Below.refl _ _) _⟩
set_option maxHeartbeats 4000000 in
set_option maxRecDepth 100000 in
theorem pred_no (j : S34) (h : jobOk j = true) (w : World) : Calls Tryd.prog 28 #[.agg #[.int .i64 j.f0, .int .i64 j.f1, .int .i64 j.f2]] w fun e w' => e = .returned (.bool false) ∧ Below w.heap.size w w' := by
 have H := hid h
 clear h
 go_enter Tryd.func28, Tryd.ntmps28
 go_wp2_with (fail)
 refine (isJob_yes j H.out _).mono ?_
 rintro e w1 ⟨rfl, hb⟩
 have HB := Aside0.mk hb
 clear hb
 go_wp2_with (fail)
 go_ret
 exact ⟨rfl, (below_alloc (Below.refl _ _) _).trans (HB.out.mono (by simp))⟩
set_option maxHeartbeats 4000000 in
set_option maxRecDepth 100000 in
theorem index_no (A0 : Option Addr) (c0 : Nat) (l : List S34) (w : World) (hl : l.length ≤ 32) (hr : Kd.C k34 w A0 l.length l) (hv : ∀ x, x ∈ l → jobOk x = true) :
  Calls Tryd.prog 45 #[.slice A0 l.length c0, .func (.func 28) #[] #[]] w fun e w' => e = .returned (.int .i64 (-1)) ∧ Below w.heap.size w w' := by
 have HR := Aside0.mk hr
 have HV := hid hv
 clear hr hv
 go_enter Tryd.func45, Tryd.ntmps45
 go_wp2_with (fail)
 go_loopg [8] l.length (fun kq v8 w' => ∃ (k : Nat), v8 = .int .i64 k ∧ k + kq = l.length ∧ Aside0 (Below w.heap.size w w'))
 case atStart => exact ⟨0, rfl, by omega, ⟨Below.refl _ _⟩⟩
 case round =>
  obtain ⟨k, rfl, hk, HB⟩ := hrel
  by_cases hlt : k < l.length
  ·have d2 : decide ((k : Int) < (l.length : Int)) = true := decide_eq_true (by omega)
   obtain ⟨ad, e0, hx0, hx1, hx2⟩ := at_T34 HR.out (k : Int) (by omega) (by omega)
   rw [Int.toNat_natCast] at hx0 hx1 hx2
   replace hx0 := (HB.out.cell (World.block_lt_of_cell? w _ hx0)).trans hx0
   replace hx1 := (HB.out.cell (World.block_lt_of_cell? w _ hx1)).trans hx1
   replace hx2 := (HB.out.cell (World.block_lt_of_cell? w _ hx2)).trans hx2
   cases e0
   have hlt' : (k : Int) < (l.length : Int) := by omega
   have k0 : (0 : Int) ≤ (k : Int) := by omega
   have HJ := hid (HV.out _ (rd_mem k hlt))
   have HLT := hid hlt
   obtain ⟨bl, hbl⟩ : ∃ bl, bl = rd_T34 l (k : Int) := ⟨_, rfl⟩
   rw [← hbl] at hx0 hx1 hx2 HJ
   clear hbl hlt
   go_wp2_with (fail)
   refine (pred_no bl HJ.out _).mono ?_
   rintro e w1 ⟨rfl, hb⟩
   have HB2 : Aside0 (Below w.heap.size w w1) := ⟨HB.out.trans (hb.mono HB.out.size)⟩
   clear hb HB hx0 hx1 hx2
   go_wp2_with (fail)
   go_roundg (l.length - (k + 1))
   case rel => exact ⟨k + 1, by go_num, by have := HLT.out; omega, HB2⟩
   case measure => have := HLT.out; omega
  ·have d2 : decide ((k : Int) < (l.length : Int)) = false := decide_eq_false (by omega)
   go_wp2_with (fail)
   go_ret
   exact ⟨rfl, HB.out⟩
set_option maxHeartbeats 4000000 in
set_option maxRecDepth 100000 in
theorem contains_no (A0 : Option Addr) (c0 : Nat) (l : List S34) (w : World) (hl : l.length ≤ 32) (hr : Kd.C k34 w A0 l.length l) (hv : ∀ x, x ∈ l → jobOk x = true) :
  Calls Tryd.prog 27 #[.slice A0 l.length c0, .func (.func 28) #[] #[]] w fun e w' => e = .returned (.bool false) ∧ Below w.heap.size w w' := by
 have HR := Aside0.mk hr
 have HV := hid hv
 clear hr hv
 go_enter Tryd.func27, Tryd.ntmps27
 go_wp2_with (fail)
 refine (index_no A0 c0 l _ hl HR.out HV.out).mono ?_
 rintro e w1 ⟨rfl, hb⟩
 have HB := Aside0.mk hb
 clear hb
 go_wp2_with (fail)
 go_ret
 exact ⟨rfl, HB.out⟩
set_option maxHeartbeats 4000000 in
set_option maxRecDepth 100000 in
theorem btask_walk (b : Nat) (A0 : Option Addr) (c0 : Nat) (l : List S34) (w : World) (hb1 : 1 ≤ b) (hb2 : b ≤ 8) (hl : l.length ≤ 32) (hr : Kd.C k34 w A0 l.length l) (hv : ∀ x, x ∈ l → jobOk x = true) :
  Calls Tryd.prog 15 #[.int .i64 b, .slice A0 l.length c0] w fun e w' => e = .returned (.tuple #[.agg #[.int .i64 b, .slice A0 l.length c0], .int .i64 0]) ∧ Below w.heap.size w w' := by
 have HR := Aside0.mk hr
 have HV := hid hv
 clear hr hv
 have d1 : decide ((32 : Int) < (l.length : Int)) = false := decide_eq_false (by omega)
 go_enter Tryd.func15, Tryd.ntmps15
 go_wp2_with (fail)
 refine (bwithin_yes (a := (b : Int)) (by omega) (by omega) _).mono ?_
 rintro e w1 ⟨rfl, rfl⟩
 go_wp2_with (fail)
 refine (contains_no A0 c0 l _ hl (Kd.C_below HR.out (below_alloc (Below.refl _ _) _)) HV.out).mono ?_
 rintro e w1 ⟨rfl, hb⟩
 have HB := Aside0.mk ((below_alloc (Below.refl w.heap.size w) (.cells #[.int .i64 0, .slice none 0 0] 60)).trans (hb.mono (by simp)))
 have HC := hid (show w1.heap[w.heap.size]? = some (.cells #[.int .i64 0, .slice none 0 0] 60 (0, 0)) from (hb.block _ (by simp)).trans (blk_new _ _))
 clear hb
 have q0 : w1.cell? ⟨w.heap.size, 0, none⟩ = some (.int .i64 0) := by simp [World.cell?, HC.out]
 have q1 : w1.cell? ⟨w.heap.size, 1, none⟩ = some (.slice none 0 0) := by simp [World.cell?, HC.out]
 have r0 : ∀ j, w1.frozen? ⟨w.heap.size, j, none⟩ = false := fun j => by simp [World.frozen?, HC.out]
 go_wp2_with (fail)
 refine bodyPost_ret (results_ct rfl _ _ w.heap.size 60 #[.int .i64 b, .slice A0 l.length c0] (0, 0) _ rfl ?_ Tryd.underlying60 rfl (by kernel_rfl)) rfl ?_
 ·refine blk_put (cs := #[.int .i64 b, .slice none 0 0]) ?_ 1 _ rfl
  exact blk_put (cs := #[.int .i64 0, .slice none 0 0]) HC.out 0 _ rfl
 ·exact ⟨rfl, Below.setCell (p := ⟨w.heap.size, 1, none⟩) (Below.setCell (p := ⟨w.heap.size, 0, none⟩) HB.out (Nat.le_refl _) _) (Nat.le_refl _) _⟩
end Go.Proofs.YtiioklboaookiaaDoor.Q
namespace Go.Proofs
open Go.Shelf
def Tryd.laysSort_ren : Go.Shelf.Ren := ⟨fun | 189 => 64 | 125 => 71 | 257 => 70 | 128 => 82 | 129 => 83 | 294 => 73 | 295 => 74 | 296 => 75 | 297 => 76 | 298 => 77 | 299 => 78 | 216 => 79 | 300 => 80 | 301 => 81 | 328 => 86 | 329 => 87 | 330 => 88 | 331 => 89 | 332 => 90 | 215 => 68 | 343 => 92 | n => n, fun | 28 => 51 | 3 => 3 | 46 => 49 | 0 => 0 | 51 => 160 | 53 => 162 | 4 => 4 | 183 => 154 | 182 => 153 | 131 => 126 | 5 => 5 | 9 => 9 | 218 => 165 | 222 => 169 | 228 => 171 | 229 => 172 | n => n, fun | n => n⟩
theorem Tryd.laysSort : Go.Proofs.Lays.n189 Tryd.prog Tryd.laysSort_ren := {
 mixed := by kernel_rfl
 f125 := Tryd.func71.trans (congrArg some (by kernel_rfl))
 f128 := Tryd.func82.trans (congrArg some (by kernel_rfl))
 f129 := Tryd.func83.trans (congrArg some (by kernel_rfl))
 f189 := Tryd.func64.trans (congrArg some (by kernel_rfl))
 f215 := Tryd.func68.trans (congrArg some (by kernel_rfl))
 f216 := Tryd.func79.trans (congrArg some (by kernel_rfl))
 f257 := Tryd.func70.trans (congrArg some (by kernel_rfl))
 f294 := Tryd.func73.trans (congrArg some (by kernel_rfl))
 f295 := Tryd.func74.trans (congrArg some (by kernel_rfl))
 f296 := Tryd.func75.trans (congrArg some (by kernel_rfl))
 f297 := Tryd.func76.trans (congrArg some (by kernel_rfl))
 f298 := Tryd.func77.trans (congrArg some (by kernel_rfl))
 f299 := Tryd.func78.trans (congrArg some (by kernel_rfl))
 f300 := Tryd.func80.trans (congrArg some (by kernel_rfl))
 f301 := Tryd.func81.trans (congrArg some (by kernel_rfl))
 f328 := Tryd.func86.trans (congrArg some (by kernel_rfl))
 f329 := Tryd.func87.trans (congrArg some (by kernel_rfl))
 f330 := Tryd.func88.trans (congrArg some (by kernel_rfl))
 f331 := Tryd.func89.trans (congrArg some (by kernel_rfl))
 f332 := Tryd.func90.trans (congrArg some (by kernel_rfl))
 f343 := Tryd.func92.trans (congrArg some (by kernel_rfl))
 t0 := Tryd.underlying0
 a0 := Tryd.isAgg0
 z0 := Tryd.sizeOf0
 v0 := Tryd.zeroValue0
 t3 := Tryd.underlying3
 a3 := Tryd.isAgg3
 z3 := Tryd.sizeOf3
 v3 := Tryd.zeroValue3
 t4 := Tryd.underlying4
 a4 := Tryd.isAgg4
 z4 := Tryd.sizeOf4
 v4 := Tryd.zeroValue4
 t5 := Tryd.underlying5
 a5 := Tryd.isAgg5
 z5 := Tryd.sizeOf5
 v5 := Tryd.zeroValue5
 t9 := Tryd.underlying9
 a9 := Tryd.isAgg9
 z9 := Tryd.sizeOf9
 v9 := Tryd.zeroValue9
 t28 := Tryd.underlying51
 a28 := Tryd.isAgg51
 z28 := Tryd.sizeOf51
 v28 := Tryd.zeroValue51
 t46 := Tryd.underlying49
 a46 := Tryd.isAgg49
 z46 := Tryd.sizeOf49
 v46 := Tryd.zeroValue49
 t51 := Tryd.underlying160
 a51 := Tryd.isAgg160
 z51 := Tryd.sizeOf160
 v51 := Tryd.zeroValue160
 t53 := Tryd.underlying162
 a53 := Tryd.isAgg162
 z53 := Tryd.sizeOf162
 v53 := Tryd.zeroValue162
 t131 := Tryd.underlying126
 a131 := Tryd.isAgg126
 z131 := Tryd.sizeOf126
 v131 := Tryd.zeroValue126
 t182 := Tryd.underlying153
 a182 := Tryd.isAgg153
 z182 := Tryd.sizeOf153
 v182 := Tryd.zeroValue153
 t183 := Tryd.underlying154
 a183 := Tryd.isAgg154
 z183 := Tryd.sizeOf154
 v183 := Tryd.zeroValue154
 t218 := Tryd.underlying165
 a218 := Tryd.isAgg165
 z218 := Tryd.sizeOf165
 v218 := Tryd.zeroValue165
 t222 := Tryd.underlying169
 a222 := Tryd.isAgg169
 z222 := Tryd.sizeOf169
 v222 := Tryd.zeroValue169
 t228 := Tryd.underlying171
 a228 := Tryd.isAgg171
 z228 := Tryd.sizeOf171
 v228 := Tryd.zeroValue171
 t229 := Tryd.underlying172
 a229 := Tryd.isAgg172
 z229 := Tryd.sizeOf172
 v229 := Tryd.zeroValue172 }
def Tryd.laysCompact_ren : Go.Shelf.Ren := ⟨fun | 20 => 65 | n => n, fun | 22 => 51 | 3 => 3 | 4 => 4 | 0 => 0 | n => n, fun | n => n⟩
theorem Tryd.laysCompact : Go.Proofs.Lays2.n20 Tryd.prog Tryd.laysCompact_ren := {
 mixed := by kernel_rfl
 f20 := Tryd.func65.trans (congrArg some (by kernel_rfl))
 t0 := Tryd.underlying0
 a0 := Tryd.isAgg0
 z0 := Tryd.sizeOf0
 v0 := Tryd.zeroValue0
 t3 := Tryd.underlying3
 a3 := Tryd.isAgg3
 z3 := Tryd.sizeOf3
 v3 := Tryd.zeroValue3
 t4 := Tryd.underlying4
 a4 := Tryd.isAgg4
 z4 := Tryd.sizeOf4
 v4 := Tryd.zeroValue4
 t22 := Tryd.underlying51
 a22 := Tryd.isAgg51
 z22 := Tryd.sizeOf51
 v22 := Tryd.zeroValue51
 i3 := by kernel_rfl }
end Go.Proofs
namespace Go.Proofs.YtiioklboaookiaaDoor.Q
open Go.RowKit Go.Proofs.YtiioklboaookiaaDoorW.PrintWords Go.Proofs.YtiioklboaookiaaDoorW.PrintLast Go.Proofs.YtiioklboaookiaaDoor.Hand Go.Proofs.YtiioklboaookiaaDoorW.PrintMore
attribute [local go_sem] max2_int min2_int max_two min_two max_three min_three max_four min_four
set_option linter.unusedVariables false
set_option linter.unusedSimpArgs false
open Go.Sort in
theorem sort_R (g cap base : Nat) (zs : List Int) (w : World) (h : Kd.R (Kd.int .i64) 3 w base (fun _ => True) (.slice (some ⟨g, 0, none⟩) zs.length cap) zs) (hl : zs.length ≤ 1000000) :
  Calls Tryd.prog 64 #[.slice (some ⟨g, 0, none⟩) zs.length cap] w fun e w' => e = .returned (.tuple #[]) ∧
   Kd.R (Kd.int .i64) 3 w' base (fun _ => True) (.slice (some ⟨g, 0, none⟩) zs.length cap) (zs.mergeSort fun x y => decide (x ≤ y)) ∧ w.grownBy w' (some g) := by
 have ho := Kd.own_of_R h
 rcases ho.2 with ⟨he, _⟩ | ⟨g', cap', cur, hv, hb, hh, hnc, hcm, hcs, ht⟩
 ·cases he
 ·cases hv
  have hm : encs (Value.int .i64) zs = zs.map (Value.int .i64) := rfl
  rw [Nat.mul_one, hm] at ht
  refine (Any.slices_Sort_int Tryd.laysSort g 0 cap zs w (holds_of_blockI hh ht) (lt_of_some hh) (by omega)).mono ?_
  rintro e w' ⟨rfl, n, os, rfl⟩
  refine ⟨rfl, ?_, grownBy_sortedI _⟩
  have hlen : (zs.mergeSort fun x y => decide (x ≤ y)).length = zs.length := List.length_mergeSort _
  have := ownsRow_sortedI (base := base) (n := n) (os := os) hlen hb hh hnc hcm hcs
  rw [← hlen] at this ⊢
  exact Kd.R_of_own this (fun _ _ => trivial)
open Go.Sort in
theorem compact_R (g cap base : Nat) (zs : List Int) (w : World) (h : Kd.R (Kd.int .i64) 3 w base (fun _ => True) (.slice (some ⟨g, 0, none⟩) zs.length cap) zs) (hl : zs.length ≤ 1000000) :
  Calls Tryd.prog 65 #[.slice (some ⟨g, 0, none⟩) zs.length cap] w fun e w' => e = .returned (.slice (some ⟨g, 0, none⟩) (Lib.compact zs).length cap) ∧
   Kd.R (Kd.int .i64) 3 w' base (fun _ => True) (.slice (some ⟨g, 0, none⟩) (Lib.compact zs).length cap) (Lib.compact zs) ∧ w.grownBy w' (some g) := by
 have ho := Kd.own_of_R h
 rcases ho.2 with ⟨he, _⟩ | ⟨g', cap', cur, hv, hb, hh, hnc, hcm, hcs, ht⟩
 ·cases he
 ·cases hv
  have hm : encs (Value.int .i64) zs = zs.map (Value.int .i64) := rfl
  rw [Nat.mul_one, hm] at ht
  refine (Any.slices_Compact_int Tryd.laysCompact g 0 cap zs w (holds_of_blockI hh ht) (by omega) hnc).mono ?_
  rintro e w' ⟨rfl, q, rfl⟩
  have hc : (Lib.compact zs).length ≤ zs.length := by
   unfold Lib.compact Lib.compactUpTo
   rw [List.length_map]
   exact Nat.le_trans (List.length_filter_le _ _) (by simp)
  have hg := grownBy_sortedI (w := w) (g := g) (n := q) (os := #[]) (Lib.compact zs ++ List.replicate (zs.length - (Lib.compact zs).length) 0).toArray
  rw [grow_empty] at hg
  refine ⟨rfl, ?_, hg⟩
  have hlen : (Lib.compact zs ++ List.replicate (zs.length - (Lib.compact zs).length) 0).length = zs.length := by simp; omega
  have h2 := ownsRow_sortedI (base := base) (n := q) (os := #[]) hlen hb hh hnc hcm hcs
  rw [grow_empty] at h2
  have h3 := own_take (m := (Lib.compact zs).length) h2 hc
  rw [Nat.mul_one, List.map_append, List.take_left' (by simp)] at h3
  exact Kd.R_of_own h3 (fun _ _ => trivial)
theorem sort_any (A : Option Addr) (cap n base : Nat) (zs : List Int) (w : World) (hn : n = zs.length) (h : Kd.R (Kd.int .i64) 3 w base (fun _ => True) (.slice A n cap) zs) (hl : zs.length ≤ 1000000) (hbase : base ≤ w.heap.size) :
  Calls Tryd.prog 64 #[.slice A n cap] w fun e w' => e = .returned (.tuple #[]) ∧ Kd.R (Kd.int .i64) 3 w' base (fun _ => True) (.slice A n cap) (zs.mergeSort fun x y => decide (x ≤ y)) ∧ Below base w w' := by
 subst hn
 have ho := Kd.own_of_R h
 rcases ho.2 with ⟨he, h0⟩ | ⟨g, cap', cur, hv, hb, _⟩
 ·have hz : zs = [] := List.length_eq_zero_iff.1 h0
  subst hz
  have hA : A = none := by injection he
  have hcap : cap = 0 := by injection he
  subst hA hcap
  refine (Any.slices_Sort_int_none Tryd.laysSort none 0 w).mono ?_
  rintro e w' ⟨rfl, rfl⟩
  exact ⟨rfl, by simpa using h, Below.refl _ _⟩
 ·cases hv
  refine (sort_R g cap base zs w h hl).mono ?_
  rintro e w' ⟨rfl, hr, hg⟩
  exact ⟨rfl, hr, (Below.refl base w).grown hg hbase (fun k hk => by injection hk with hk; rw [← hk]; exact hb)⟩
theorem compact_any (A : Option Addr) (cap n base : Nat) (zs : List Int) (w : World) (hn : n = zs.length) (h : Kd.R (Kd.int .i64) 3 w base (fun _ => True) (.slice A n cap) zs) (hl : zs.length ≤ 1000000) (hbase : base ≤ w.heap.size) :
  Calls Tryd.prog 65 #[.slice A n cap] w fun e w' => ∃ v, e = .returned v ∧ Kd.R (Kd.int .i64) 3 w' base (fun _ => True) v (Lib.compact zs) ∧ Below base w w' := by
 subst hn
 have ho := Kd.own_of_R h
 rcases ho.2 with ⟨he, h0⟩ | ⟨g, cap', cur, hv, hb, _⟩
 ·have hz : zs = [] := List.length_eq_zero_iff.1 h0
  subst hz
  have hA : A = none := by injection he
  have hcap : cap = 0 := by injection he
  subst hA hcap
  refine (Any.slices_Compact_int_empty Tryd.laysCompact none 0 w).mono ?_
  rintro e w' ⟨rfl, rfl⟩
  exact ⟨_, rfl, h, Below.refl _ _⟩
 ·cases hv
  refine (compact_R g cap base zs w h hl).mono ?_
  rintro e w' ⟨rfl, hr, hg⟩
  exact ⟨_, rfl, hr, (Below.refl base w).grown hg hbase (fun k hk => by injection hk with hk; rw [← hk]; exact hb)⟩
end Go.Proofs.YtiioklboaookiaaDoor.Q
