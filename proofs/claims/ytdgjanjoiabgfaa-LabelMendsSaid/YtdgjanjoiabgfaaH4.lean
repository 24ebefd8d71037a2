/- What label.spots and label.changes come to: the different positions of a list; how many bytes differ. -/
import Derived.Test.YtdgjanjoiabgfaaProg
import Derived.Test.YtdgjanjoiabgfaaRs0
import Derived.Test.YtdgjanjoiabgfaaH0
import Derived.Below
import Derived.Deep.Draws
import Derived.Deep.AppendLies
import Derived.Maps.AppendAt
import Derived.OwnWalk
import Derived.Laws.BytesArg
import Derived.Laws.MakeOwn
import Derived.Laws.OwnMore
import Derived.Deep.OwnRows
import Derived.Tactics
import Derived.Lib.ConvBytes
import Derived.Laws.Slices
import Derived.WalkKit
import Derived.KernelRfl
import Derived.RowKit3
import Derived.Deep.LoopGhost
import Derived.Deep.QuietTactic
import Derived.BigQuiet
import Derived.WideLaws
import Derived.Deep.DeepCutAuto
import Derived.Deep.CutBlock
import Derived.Deep.RegionHeld3
import Derived.Laws.Rows
import Derived.Lib.AppendStr
import Derived.ArgAppend
import Derived.Laws.IdiomCopy
import Derived.OrdersHeld
import Derived.Laws.BitsLemmas
import Derived.RowKit
import Derived.RegionTactic
import Derived.ChangeAlike
import Derived.Deep.RegionWith
import Derived.IntWalk
import Derived.Test.YtdgjanjoiabgfaaWWords
import Derived.Test.YtdgjanjoiabgfaaWLast
import Derived.Test.YtdgjanjoiabgfaaWTab
import Derived.Test.YtdgjanjoiabgfaaWFour
import Derived.Test.YtdgjanjoiabgfaaWQPut
import Derived.Test.YtdgjanjoiabgfaaWApart
import Derived.Test.YtdgjanjoiabgfaaWArr
import Derived.Test.YtdgjanjoiabgfaaWZeros
import Derived.Test.YtdgjanjoiabgfaaWFoot
import Derived.Test.YtdgjanjoiabgfaaWKept
import Derived.Test.YtdgjanjoiabgfaaWShare
import Derived.Test.YtdgjanjoiabgfaaWN
import Derived.Test.YtdgjanjoiabgfaaWFootNe
import Derived.Test.YtdgjanjoiabgfaaWAt
import Derived.Test.YtdgjanjoiabgfaaWEqStruct
import Derived.Test.YtdgjanjoiabgfaaWRepsOne
import Derived.Test.YtdgjanjoiabgfaaWInv
import Derived.Test.YtdgjanjoiabgfaaWInvWords
import Derived.Test.YtdgjanjoiabgfaaWGuard
import Derived.Test.YtdgjanjoiabgfaaWNEv
import Derived.Test.YtdgjanjoiabgfaaWMore
import Derived.Test.YtdgjanjoiabgfaaH1
import Derived.Test.YtdgjanjoiabgfaaH2
import Derived.Test.YtdgjanjoiabgfaaH3
import Derived.Maps.Own
import Derived.Maps.OwnOps
import Derived.Maps.OwnSet
import Derived.Maps.Views
namespace Go.Proofs.Ytdgjanjoiabgfaa.Hand
open Go.RowKit Go.Proofs.YtdgjanjoiabgfaaW.PrintWords Go.Proofs.YtdgjanjoiabgfaaW.PrintLast Go.Proofs.YtdgjanjoiabgfaaW.PrintMore
open Rs (xt pw_bd lg_pw pw_lg pw_mod)
attribute [local go_sem] max2_int min2_int max_two min_two max_three min_three max_four min_four
set_option linter.unusedVariables false
set_option linter.unusedSimpArgs false
/-! ### spots -/
theorem Try.infoInt : (Try.prog.info? 3).map (fun i => (i.zero, i.size, i.bytes)) = some (some (.int .i64 0), 1, 8) := by kernel_rfl
def spL (n : Int) : List Int → List Int → Option (List Int)
  | [], out => some out
  | i :: l, out => if i < 0 ∨ n ≤ i then none else if i ∈ out then spL n l out else spL n l (out ++ [i])
def label_spots.f (l0 : List Int) (a1 : Int) : Option (List Int × Bool) :=
  if (l0.length : Int) > 255 then some ([], false) else if 0 ≤ a1 ∧ a1 ≤ 255 then
    (match spL a1 l0 [] with
      | none => some ([], false)
      | some out => some (out, true)) else none
def zbools : Array Value := (List.replicate 255 (Value.bool false)).toArray
theorem zero255 (w : World) : Sem.run Try.prog (zeroValue 87) w = .ok (.agg zbools) w := by kernel_rfl
/-- what has been seen -/
def SeenB (b : Nat) (out : List Int) (w : World) : Prop := ∃ C : Array Value, w.heap[b]? = some (.cells C 87 (0, 0)) ∧ ∀ j : Nat, j < 255 → C[j]? = some (.bool (decide ((j : Int) ∈ out)))
theorem SeenB.cell {b : Nat} {out : List Int} {w : World} (h : SeenB b out w) (j : Nat) (hj : j < 255) : w.cell? ⟨b, j, none⟩ = some (.bool (decide ((j : Int) ∈ out))) := by
  obtain ⟨C, h1, h2⟩ := h; simp [World.cell?, h1, h2 j hj]
theorem SeenB.free {b : Nat} {out : List Int} {w : World} (h : SeenB b out w) (j : Nat) : w.frozen? ⟨b, j, none⟩ = false := by
  obtain ⟨C, h1, h2⟩ := h; simp [World.frozen?, h1]
theorem SeenB.start (w : World) : SeenB w.heap.size [] (w.alloc (.cells zbools 87)) := by
  refine ⟨zbools, heap_new _ _ _ rfl, fun j hj => ?_⟩
  unfold zbools; rw [List.getElem?_toArray, List.getElem?_replicate, if_pos hj]; rfl
theorem SeenB.put {b : Nat} {out : List Int} {w : World} (h : SeenB b out w) (j : Nat) (hj : j < 255) : SeenB b (out ++ [(j : Int)]) (w.setCell ⟨b, j, none⟩ (.bool true)) := by
  obtain ⟨C, h1, h2⟩ := h
  refine ⟨C.setIfInBounds j (.bool true), blk_set h1 j _, fun k hk => ?_⟩
  have hs : j < C.size := lt_of_some (h2 j hj)
  rw [Array.getElem?_setIfInBounds]
  by_cases e : j = k
  · subst e; simp [hs]
  · rw [if_neg e, h2 k hk]
    congr 2
    simp only [List.mem_append, List.mem_singleton, decide_eq_decide]
    constructor
    · exact .inl
    · rintro (h | h)
      · exact h
      · omega
theorem SeenB.drew {b : Nat} {out : List Int} {w : World} (h : SeenB b out w) : SeenB b out w.drew := h
theorem SeenB.step {b : Nat} {out : List Int} {w w1 : World} (h : SeenB b out w) (he : w1.heap[b]? = w.heap[b]?) : SeenB b out w1 := by obtain ⟨C, h1, h2⟩ := h; exact ⟨C, he.trans h1, h2⟩
theorem SeenB.lt {b : Nat} {out : List Int} {w : World} (h : SeenB b out w) : b < w.heap.size := by obtain ⟨C, h1, h2⟩ := h; exact lt_of_some h1
theorem SeenB.ne {b : Nat} {out xs : List Int} {w : World} {base : Nat} {ok : Nat → Prop} {v : Value} (h : SeenB b out w) (hr : Kd.R (Kd.int .i64) 3 w base ok v xs) : some b ≠ v.ownBlock := by
  obtain ⟨C, h1, h2⟩ := h; exact Kd.R_ne hr h1 (by decide)
set_option maxHeartbeats 1000000 in
set_option maxRecDepth 100000 in
theorem spots_long (A0 : Option Addr) (c0 : Nat) (l0 : List Int) (a1 : Int) (w : World) (h : (l0.length : Int) > 255) :
    Calls Try.prog 39 #[.slice A0 l0.length c0, .int .i64 a1] w fun e w' => ∃ v0_ : Value, e = .returned (.tuple #[v0_, .bool false]) ∧ Kd.R (Kd.int .i64) 3 w' w.heap.size (fun _ => True) v0_ [] ∧ Below w.heap.size w w' := by
  have d0 : decide (255 < (l0.length : Int)) = true := decide_eq_true h
  clear h
  go_enter Try.func39, Try.ntmps39
  go_wp2
  go_ret2
  exact ⟨_, rfl, Kd.R_nil _ _ _ _ _, Below.refl _ _⟩
set_option maxHeartbeats 4000000 in
set_option maxRecDepth 100000 in
theorem spots_walk (A0 : Option Addr) (c0 : Nat) (l0 : List Int) (a1 : Int) (r : List Int) (b : Bool) (w : World) (hr0 : Kd.C (Kd.int .i64) w A0 l0.length l0) (hl : (l0.length : Int) ≤ 255) (h0 : 0 ≤ a1) (h1 : a1 ≤ 255)
    (hr : (match spL a1 l0 [] with | none => ([], false) | some out => (out, true)) = (r, b)) :
    Calls Try.prog 39 #[.slice A0 l0.length c0, .int .i64 a1] w fun e w' => ∃ v0_ : Value, e = .returned (.tuple #[v0_, .bool b]) ∧ Kd.R (Kd.int .i64) 3 w' w.heap.size (fun _ => True) v0_ r ∧ Below w.heap.size w w' := by
  have d0 : decide (255 < (l0.length : Int)) = false := decide_eq_false (by omega)
  have HR0 := Aside0.mk hr0
  have HR := hid hr
  clear hr0 hr
  have hz := zero255
  go_enter Try.func39, Try.ntmps39
  go_wp2
  clear hz
  go_loopg [6, 15] l0.length (fun kq v6 v15 w' => ∃ (i : Nat) (out : List Int), v15 = .int .i64 i ∧ i + kq = l0.length ∧ Aside0 ((match spL a1 (l0.drop i) out with | none => ([], false) | some out => (out, true)) = (r, b)) ∧ Aside0 (out.length ≤ i) ∧ Aside0 (SeenB w.heap.size out w') ∧ Aside0 (Kd.R (Kd.int .i64) 3 w' w.heap.size (fun _ => True) v6 out) ∧ Aside0 (Below w.heap.size w w'))
  case atStart => exact ⟨0, [], rfl, by omega, ⟨HR.out⟩, ⟨Nat.le_refl _⟩, ⟨SeenB.start w⟩, ⟨Kd.R_nil _ _ _ _ _⟩, ⟨(Below.refl _ _).alloc (Nat.le_refl _) _⟩⟩
  case round =>
    obtain ⟨i, out, rfl, hi, HT, HLN, HS, HO, HB⟩ := hrel
    by_cases hlt : i < l0.length
    · have d1 : decide ((i : Int) < (l0.length : Int)) = true := decide_eq_true (by omega)
      obtain ⟨ad, e0, hx0⟩ := Kd.at_int HR0.out (i : Int) (by omega) (by omega)
      rw [Int.toNat_natCast] at hx0
      have hx := (HB.out.cell (World.block_lt_of_cell? w _ hx0)).trans hx0
      cases e0
      clear hx0
      have hlt' : (i : Int) < (l0.length : Int) := by omega
      have i0 : (0 : Int) ≤ (i : Int) := by omega
      have hdr := drop_rd i hlt
      obtain ⟨x, hxx⟩ : ∃ x, x = rd l0 (i : Int) := ⟨_, rfl⟩
      rw [← hxx] at hx hdr
      have HDR := hid hdr
      clear hdr hxx
      by_cases b0 : x < 0
      · have d2 : decide (x < 0) = true := decide_eq_true b0
        go_wp2
        go_ret2
        have h := HT.out
        rw [HDR.out] at h
        unfold spL at h
        rw [if_pos (.inl b0)] at h
        cases h
        exact ⟨_, rfl, Kd.R_nil _ _ _ _ _, HB.out⟩
      · have d2 : decide (x < 0) = false := decide_eq_false b0
        by_cases b1 : a1 ≤ x
        · have d3 : decide (a1 ≤ x) = true := decide_eq_true b1
          go_wp2
          go_ret2
          have h := HT.out
          rw [HDR.out] at h
          unfold spL at h
          rw [if_pos (.inr b1)] at h
          cases h
          exact ⟨_, rfl, Kd.R_nil _ _ _ _ _, HB.out⟩
        · have d3 : decide (a1 ≤ x) = false := decide_eq_false b1
          obtain ⟨j, rfl⟩ := Int.eq_ofNat_of_zero_le (show 0 ≤ x by omega)
          have HA := hid (show ¬ ((j : Int) < 0 ∨ a1 ≤ (j : Int)) by omega)
          have hj : j < 255 := by omega
          have hj1 : (j : Int) < 255 := by omega
          have hj0 : (0 : Int) ≤ (j : Int) := by omega
          have hs := HS.out.cell j hj
          have hf := HS.out.free j
          by_cases hm : (j : Int) ∈ out
          · rw [decide_eq_true hm] at hs
            have HM := hid hm
            clear hm b0 b1
            go_wp2
            go_roundg (l0.length - (i + 1))
            case rel =>
              refine ⟨i + 1, out, by go_num, by omega, ⟨?_⟩, ⟨by have := HLN.out; omega⟩, HS, HO, HB⟩
              have h := HT.out
              rw [HDR.out] at h
              unfold spL at h
              rw [if_neg HA.out, if_pos HM.out] at h
              exact h
            case measure => omega
          · rw [decide_eq_false hm] at hs
            have HM := hid hm
            clear hm b0 b1
            obtain ⟨Ao, co, eo⟩ := Kd.R_slice HO.out
            subst eo
            obtain ⟨C, hC1, hC2⟩ := HS.out
            have HO2 := Aside0.mk (Kd.R_set HO.out hC1 (by decide) j (.bool true))
            have HB2 := Aside0.mk (HB.out.setCell (p := ⟨w.heap.size, j, none⟩) (Nat.le_refl _) (.bool true))
            have HS2 := Aside0.mk (HS.out.put j hj)
            clear hC1 hC2
            go_wp2_with ((with_reducible refine gate_builtin (b := .append) (xs := #[.tmp 32, .tmp 34]) rfl ?_); at_builtin; refine Kd.R_append (Kd.int .i64) (w0 := w) w.heap.size rfl (.tmp 32) (.tmp 34) 29 3 (.int .i64 0) 8 rfl Try.underlying29 Try.infoInt rfl (by decide) (by omega) (.slice Ao out.length co) out (j : Int) [.int .i64 j] (fun _ => True) (fun _ => False) rfl (by first | (go_simp; done) | (go_simp; rfl)) ?aP (fun _ hk => hk.elim) ?aF ?aO ?aB ?aS ?aL ?_; (case aP => exact rfl); (case aB => exact HB2.out); (case aF => exact (fun _ _ => trivial)); (case aO => exact HO2.out); (case aS => exact HB2.out.size); (case aL => have := HLN.out; omega); intro v1 w9 ho hb hg hat; have HO1 := Aside0.mk ho; have HB1 := Aside0.mk hb; have HG1 := Aside0.mk hg; clear ho hb hg hat)
            go_roundg (l0.length - (i + 1))
            case rel =>
              refine ⟨i + 1, out ++ [(j : Int)], by go_num, by omega, ⟨?_⟩, ⟨by have := HLN.out; rw [List.length_append, List.length_singleton]; omega⟩, ⟨?_⟩, HO1, HB1⟩
              · have h := HT.out
                rw [HDR.out] at h
                unfold spL at h
                rw [if_neg HA.out, if_neg HM.out] at h
                exact h
              · exact HS2.out.step (HG1.out.block _ HS2.out.lt (HS2.out.ne HO2.out))
            case measure => omega
    · have d1 : decide ((i : Int) < (l0.length : Int)) = false := decide_eq_false (by omega)
      go_wp2
      go_ret2
      have h := HT.out
      rw [List.drop_eq_nil_of_le (by omega)] at h
      cases h
      exact ⟨_, rfl, HO.out, HB.out⟩
theorem label_spots.calls (A0 : Option Addr) (c0 : Nat) (l0 : List Int) (a1 : Int) (r1 : List Int) (r2 : Bool) (w : World) (hr0 : Kd.C (Kd.int .i64) w A0 l0.length l0) (hc0 : l0.length ≤ c0) (h : label_spots.f l0 a1 = some (r1, r2)) :
    Calls Try.prog 39 #[.slice A0 l0.length c0, .int .i64 a1] w fun e w' => ∃ v0_ : Value, e = .returned (.tuple #[v0_, .bool r2]) ∧ Kd.R (Kd.int .i64) 3 w' w.heap.size (fun _ => True) v0_ r1 ∧ Below w.heap.size w w' := by
  unfold label_spots.f at h
  by_cases h0 : (l0.length : Int) > 255
  · rw [if_pos h0] at h
    cases h
    exact spots_long A0 c0 l0 a1 w h0
  · rw [if_neg h0] at h
    by_cases h1 : 0 ≤ a1 ∧ a1 ≤ 255
    · rw [if_pos h1] at h
      refine spots_walk A0 c0 l0 a1 r1 r2 w hr0 (by omega) h1.1 h1.2 ?_
      revert h
      cases spL a1 l0 [] <;> intro h <;> cases h <;> rfl
    · rw [if_neg h1] at h; exact absurd h (by simp)
/-! ### changes -/
theorem zeroBool (w : World) : (zeroValue 4).run Try.prog w = .ok (.bool false) w := by kernel_rfl
theorem plainElem_bool_inv {H : Type} {P : Program} {e : TypeId} (he : P.underlying e = some .bool) {v : Value} {z : DataW H × List MemPlace} (h : plainElem P e v = some z) : ∃ c, v = .bool c ∧ z = (.lit (.bool c), []) := by
  cases v with
  | bool c => rw [plainElem_bool he] at h; exact ⟨c, rfl, (Option.some.inj h).symm⟩
  | _ => simp [plainElem, he] at h
/-- block b is a map in which just the numbers of l are true -/
def MapIs (b n : Nat) (l : List Int) (w : World) : Prop := ∃ D : DataW Unit, w.ownsMap Try.prog 3 (plainElem Try.prog 4) b n D ∧ Maps.IsMap D ∧ ∀ x : Int, D.atKey (.int .i64 x) (.lit (.bool false)) = .lit (.bool (decide (x ∈ l)))
theorem MapIs.look {b n : Nat} {l : List Int} {w : World} (h : MapIs b n l w) (x : Int) (hx : (Lit.int .i64 x).wf = true) :
    (Instr.lookup 90 (.map (some b)) (.int .i64 x) false).run Try.prog w = .ok (.bool (decide (x ∈ l))) w := by
  obtain ⟨D, h1, h2, h3⟩ := h
  obtain ⟨v, ps, hr, hv⟩ := h1.lookup (Maps.int_keyed Try.underlying3) Try.underlying90 (zeroBool w) (plainElem_bool Try.underlying4 false) (Maps.keyOf_int_mk Try.underlying3 hx)
  obtain ⟨c, rfl, hc⟩ := plainElem_bool_inv Try.underlying4 hv
  have h4 := h3 x
  rw [(Prod.mk.inj hc).1] at h4
  injection h4 with h4
  injection h4 with h4
  rw [hr, h4]
theorem MapIs.put {b n : Nat} {l : List Int} {D : DataW Unit} {w' : World} (h2 : Maps.IsMap D) (h3 : ∀ x : Int, D.atKey (.int .i64 x) (.lit (.bool false)) = .lit (.bool (decide (x ∈ l)))) (x : Int)
    (h1 : w'.ownsMap Try.prog 3 (plainElem Try.prog 4) b n (D.put (.int .i64 x) (.lit (.bool true)))) : MapIs b n (l ++ [x]) w' := by
  refine ⟨_, h1, h2.put _ _, fun y => ?_⟩
  by_cases e : y = x
  · subst e; rw [Maps.atKey_put_same (k := .int .i64 y) h2 trivial]; simp
  · rw [Maps.atKey_put_other (fun h => e (by injection h)), h3 y]
    simp [e]
theorem MapIs.start (w : World) : MapIs w.heap.size 0 [] (w.alloc (.map #[] 0)) := ⟨.map [], World.ownsMap_made _ _ _ _, Maps.isMap_empty, fun x => rfl⟩
theorem MapIs.drewN {b n : Nat} {l : List Int} {w : World} (h : MapIs b n l w) (m : Nat) : MapIs b n l (w.drewN m) := by
  obtain ⟨D, h1, h2, h3⟩ := h
  exact ⟨D, h1, h2, h3⟩
def chg (b lost : List Int) : List Int → Nat → Int → Int → Int × Int
  | [], _, al, ot => (al, ot)
  | x :: a, i, al, ot => if x = rd b i then chg b lost a (i + 1) al ot else if (i : Int) ∈ lost then chg b lost a (i + 1) (al + 1) ot else chg b lost a (i + 1) (al + 1) (ot + 1)
def smallB (l : List Int) : Bool := l.all fun x => decide (0 ≤ x ∧ x < 100000)
def label_changes.f (l0 l1 l2 : List Int) : Option (Int × Int) :=
  if l0.length ≤ l1.length ∧ (l0.length : Int) ≤ 100000 ∧ (l2.length : Int) ≤ 100000 ∧ smallB l2 = true then some (chg l1 l2 l0 0 0 0) else none
theorem smallB_rd {l : List Int} (h : smallB l = true) (i : Nat) (hi : i < l.length) : 0 ≤ rd l i ∧ rd l i < 100000 := by
  unfold rd; rw [Int.toNat_natCast, List.getD_eq_getElem?_getD, List.getElem?_eq_getElem hi]
  exact of_decide_eq_true (List.all_eq_true.1 h _ (List.getElem_mem hi))
theorem wf_small {x : Int} (h0 : -1000000 ≤ x) (h1 : x ≤ 1000000) : (Lit.int .i64 x).wf = true := by
  have : (Lit.int .i64 x).wf = true ↔ -9223372036854775808 ≤ x ∧ x ≤ 9223372036854775807 := by simp [Lit.wf, IntKind.min, IntKind.max, IntKind.signed, IntKind.bits]
  exact this.2 ⟨by omega, by omega⟩
theorem below_grown {B : Nat} {w w1 w2 : World} {row : Option Nat} (h : Below B w w1) (hg : w1.grownBy w2 row) (hB : B ≤ w1.heap.size) (hr : ∀ k, row = some k → B ≤ k) : Below B w w2 := h.grown hg hB hr
set_option maxHeartbeats 4000000 in
set_option maxRecDepth 100000 in
theorem changes_walk (A0 : Option Addr) (c0 : Nat) (l0 : List Int) (A1 : Option Addr) (c1 : Nat) (l1 : List Int) (A2 : Option Addr) (c2 : Nat) (l2 : List Int) (al ot : Int) (w : World)
    (hr0 : Kd.C (Kd.int .u8) w A0 l0.length l0) (hr1 : Kd.C (Kd.int .u8) w A1 l1.length l1) (hr2 : Kd.C (Kd.int .i64) w A2 l2.length l2)
    (hl : (l0.length : Int) ≤ (l1.length : Int)) (h0 : (l0.length : Int) ≤ 100000) (h2 : (l2.length : Int) ≤ 100000) (hs : smallB l2 = true) (hr : chg l1 l2 l0 0 0 0 = (al, ot)) :
    Calls Try.prog 45 #[.slice A0 l0.length c0, .slice A1 l1.length c1, .slice A2 l2.length c2] w fun e w' => e = .returned (.tuple #[.int .i64 al, .int .i64 ot]) ∧ Below w.heap.size w w' := by
  have HR0 := Aside0.mk hr0
  have HR1 := Aside0.mk hr1
  have HR2 := Aside0.mk hr2
  have HS := hid hs
  have HR := hid hr
  clear hr0 hr1 hr2 hr hs
  have hmm := @run_makeMap Try.prog
  go_enter Try.func45, Try.ntmps45
  go_wp2
  clear hmm
  go_loopg [17] l2.length (fun kq v17 w' => ∃ (i : Nat), v17 = .int .i64 i ∧ i + kq = l2.length ∧ Aside0 (MapIs w.heap.size i (l2.take i) w') ∧ Aside0 (Below w.heap.size w w'))
  case atStart => exact ⟨0, rfl, by omega, ⟨MapIs.start w⟩, ⟨(Below.refl _ _).alloc (Nat.le_refl _) _⟩⟩
  case round =>
    obtain ⟨i, rfl, hi, HM, HB⟩ := hrel
    by_cases hlt : i < l2.length
    · have d1 : decide ((i : Int) < (l2.length : Int)) = true := decide_eq_true (by omega)
      obtain ⟨ad, e0, hx0⟩ := Kd.at_int HR2.out (i : Int) (by omega) (by omega)
      rw [Int.toNat_natCast] at hx0
      have hx := (HB.out.cell (World.block_lt_of_cell? w _ hx0)).trans hx0
      cases e0
      have hlt' : (i : Int) < (l2.length : Int) := by omega
      have i0 : (0 : Int) ≤ (i : Int) := by omega
      have hsm := smallB_rd HS.out i hlt
      obtain ⟨x, hxx⟩ : ∃ x, x = rd l2 (i : Int) := ⟨_, rfl⟩
      rw [← hxx] at hx hsm
      have HXX := hid hxx
      have hk := hid (Maps.keyOf_int_mk Try.underlying3 (wf_small (x := x) (by omega) (by omega)))
      have hv := hid (plainElem_bool (H := Unit) Try.underlying4 true)
      obtain ⟨D, hD1, hD2, hD3⟩ := HM.out
      have HD1 := hid hD1
      have HD2 := hid hD2
      have HD3 := hid hD3
      have hmx := hid (show i < maxLen by unfold maxLen; omega)
      clear hx0 hD1 hD2 hD3 hxx hsm
      go_wp2_with (at_mapUpdate; refine wpList_mapUpdate_own _ rfl _ _ _ 90 rfl 3 4 (Maps.int_keyed Try.underlying3) Try.underlying90 _ w.heap.size i D rfl HD1.out hmx.out _ _ (.int .i64 x) rfl rfl hk.out (.lit (.bool true)) [] hv.out ?_; intro w1 hown hg; have HO1 := hid hown; have HG1 := hid hg; clear hown hg)
      go_roundg (l2.length - (i + 1))
      case rel =>
        refine ⟨i + 1, by go_num, by omega, ⟨?_⟩, ⟨below_grown HB.out HG1.out HB.out.size (fun k hk => by injection hk with hk; omega)⟩⟩
        rw [List.take_succ_eq_append_getElem hlt]
        have e : l2[i] = x := by rw [HXX.out]; unfold rd; rw [Int.toNat_natCast, List.getD_eq_getElem?_getD, List.getElem?_eq_getElem hlt]; rfl
        rw [e]
        exact MapIs.put HD2.out HD3.out x HO1.out
      case measure => omega
    · have d1 : decide ((i : Int) < (l2.length : Int)) = false := decide_eq_false (by omega)
      obtain rfl : i = l2.length := by omega
      have HM2 : Aside0 (MapIs w.heap.size l2.length l2 wr) := ⟨by have := HM.out; rwa [List.take_length] at this⟩
      clear HM
      go_wp2
      go_loopg [8, 9, 26] l0.length (fun kq v8 v9 v26 w' => ∃ (i : Nat) (a b : Int), v8 = .int .i64 a ∧ v9 = .int .i64 b ∧ v26 = .int .i64 i ∧ i + kq = l0.length ∧ 0 ≤ a ∧ a ≤ i ∧ 0 ≤ b ∧ b ≤ i ∧ Aside0 (chg l1 l2 (l0.drop i) i a b = (al, ot)) ∧ Aside0 (MapIs w.heap.size l2.length l2 w') ∧ Aside0 (Below w.heap.size w w'))
      case atStart => exact ⟨0, 0, 0, rfl, rfl, rfl, by omega, by omega, by omega, by omega, by omega, ⟨HR.out⟩, HM2, HB⟩
      case round =>
        clear HM2 HB
        obtain ⟨i, a, b, rfl, rfl, rfl, hi, ha0, ha1, hb0, hb1, HC, HM, HB⟩ := hrel
        by_cases hlt : i < l0.length
        · have d2 : decide ((i : Int) < (l0.length : Int)) = true := decide_eq_true (by omega)
          obtain ⟨ad0, e0, hx0⟩ := Kd.at_int HR0.out (i : Int) (by omega) (by omega)
          obtain ⟨ad1, e1, hy0⟩ := Kd.at_int HR1.out (i : Int) (by omega) (by omega)
          rw [Int.toNat_natCast] at hx0 hy0
          have hx := (HB.out.cell (World.block_lt_of_cell? w _ hx0)).trans hx0
          have hy := (HB.out.cell (World.block_lt_of_cell? w _ hy0)).trans hy0
          cases e0
          cases e1
          have hl0 : (i : Int) < (l0.length : Int) := by omega
          have hl1 : (i : Int) < (l1.length : Int) := by omega
          have i0 : (0 : Int) ≤ (i : Int) := by omega
          have HDR := hid (drop_rd i hlt)
          obtain ⟨x, hxx⟩ : ∃ x, x = rd l0 (i : Int) := ⟨_, rfl⟩
          obtain ⟨y, hyy⟩ : ∃ y, y = rd l1 (i : Int) := ⟨_, rfl⟩
          rw [← hxx] at hx HDR
          rw [← hyy] at hy
          have HYY := hid hyy
          have hlk := fun m => (HM.out.drewN m).look (i : Int) (wf_small (by omega) (by omega))
          clear hxx hyy hx0 hy0
          by_cases hc : x = y
          · have t1 : (x != y) = false := by rw [bne_eq_false_iff_eq]; exact hc
            have t2 : (x == y) = true := beq_iff_eq.2 hc
            have HCC := hid hc
            clear hc
            go_wp2
            go_quiet (fail)
            go_wp2
            go_roundg (l0.length - (i + 1))
            case rel =>
              refine ⟨i + 1, a, b, rfl, rfl, by go_num, by omega, by omega, by omega, by omega, by omega, ⟨?_⟩, ⟨HM.out.drewN _⟩, ⟨pw_below_drewN HB.out _⟩⟩
              have h := HC.out
              rw [HDR.out] at h
              unfold chg at h
              rw [← HYY.out, if_pos HCC.out] at h
              exact h
            case measure => omega
          · have t1 : (x != y) = true := bne_iff_ne.2 hc
            have t2 : (x == y) = false := beq_eq_false_iff_ne.2 hc
            have HCC := hid hc
            clear hc
            by_cases hin : (i : Int) ∈ l2
            · simp only [decide_eq_true hin] at hlk
              have HIN := hid hin
              clear hin
              go_wp2
              go_quiet (fail)
              go_wp2
              go_roundg (l0.length - (i + 1))
              case rel =>
                refine ⟨i + 1, a + 1, b, by go_num, rfl, by go_num, by omega, by omega, by omega, by omega, by omega, ⟨?_⟩, ⟨HM.out.drewN _⟩, ⟨pw_below_drewN HB.out _⟩⟩
                have h := HC.out
                rw [HDR.out] at h
                unfold chg at h
                rw [← HYY.out, if_neg HCC.out, if_pos HIN.out] at h
                exact h
              case measure => omega
            · simp only [decide_eq_false hin] at hlk
              have HIN := hid hin
              clear hin
              go_wp2
              go_quiet (fail)
              go_wp2
              go_roundg (l0.length - (i + 1))
              case rel =>
                refine ⟨i + 1, a + 1, b + 1, by go_num, by go_num, by go_num, by omega, by omega, by omega, by omega, by omega, ⟨?_⟩, ⟨HM.out.drewN _⟩, ⟨pw_below_drewN HB.out _⟩⟩
                have h := HC.out
                rw [HDR.out] at h
                unfold chg at h
                rw [← HYY.out, if_neg HCC.out, if_neg HIN.out] at h
                exact h
              case measure => omega
        · have d2 : decide ((i : Int) < (l0.length : Int)) = false := decide_eq_false (by omega)
          go_wp2
          go_ret2
          have h := HC.out
          rw [List.drop_eq_nil_of_le (by omega)] at h
          injection h with h3 h4
          subst h3
          subst h4
          exact ⟨rfl, HB.out⟩
theorem label_changes.calls (A0 : Option Addr) (c0 : Nat) (l0 : List Int) (A1 : Option Addr) (c1 : Nat) (l1 : List Int) (A2 : Option Addr) (c2 : Nat) (l2 : List Int) (r1 r2 : Int) (w : World)
    (hr0 : Kd.C (Kd.int .u8) w A0 l0.length l0) (hc0 : l0.length ≤ c0) (hr1 : Kd.C (Kd.int .u8) w A1 l1.length l1) (hc1 : l1.length ≤ c1) (hr2 : Kd.C (Kd.int .i64) w A2 l2.length l2) (hc2 : l2.length ≤ c2) (h : label_changes.f l0 l1 l2 = some (r1, r2)) :
    Calls Try.prog 45 #[.slice A0 l0.length c0, .slice A1 l1.length c1, .slice A2 l2.length c2] w fun e w' => e = .returned (.tuple #[.int .i64 r1, .int .i64 r2]) ∧ Below w.heap.size w w' := by
  unfold label_changes.f at h
  by_cases hc : l0.length ≤ l1.length ∧ (l0.length : Int) ≤ 100000 ∧ (l2.length : Int) ≤ 100000 ∧ smallB l2 = true
  · rw [if_pos hc] at h
    obtain ⟨h1, h2, h3, h4⟩ := hc
    exact changes_walk A0 c0 l0 A1 c1 l1 A2 c2 l2 r1 r2 w hr0 hr1 hr2 (by omega) h2 h3 h4 (Option.some.inj h)
  · rw [if_neg hc] at h; exact absurd h (by simp)
end Go.Proofs.Ytdgjanjoiabgfaa.Hand
