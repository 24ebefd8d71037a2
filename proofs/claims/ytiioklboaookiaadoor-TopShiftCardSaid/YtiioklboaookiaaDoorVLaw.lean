/- TopShift: if every blank of the best plan is a job whose work is its area and all jobs share one window, Fewest returns the law's number of benches: whatever the input, the law returns true; no condition. -/
import Derived.Test.YtiioklboaookiaaDoorRows
import Derived.Test.YtiioklboaookiaaDoorCards
import Derived.Test.YtiioklboaookiaaDoorTie
import Derived.WalkKit
import Derived.ProofKit
import Derived.OpenShut
import Derived.ShutString
import Derived.ChangeOld
import Derived.Below
import Derived.SizedLaws
import Derived.LaidMore
import Derived.Deep.SlicePairs
import Derived.Deep.Strs
import Derived.Lib.SmallJoins
import Derived.Stop.Joined
import Derived.SevenTiedAt
import Derived.Test.YtiioklboaookiaaDoorV8
namespace Go.Proofs.YtiioklboaookiaaDoor.topShift
open Go.ChangeShapes Go.WideShapes Go.ChangeAt Go.RowKit Go.Proofs.YtiioklboaookiaaDoorW.PrintWords Go.Proofs.YtiioklboaookiaaDoor.Q
set_option linter.unusedVariables false
theorem list2_of {α : Type} {l : List α} (h : l.length = 2) : ∃ a b, l = [a, b] := by
 match l, h with
 | [a, b], _ => exact ⟨a, b, rfl⟩
theorem list3_of {α : Type} {l : List α} (h : l.length = 3) : ∃ a b c, l = [a, b, c] := by
 match l, h with
 | [a, b, c], _ => exact ⟨a, b, c, rfl⟩
theorem cells3_of {W : World} {x : Addr} {j : Nat} {v0 v1 v2 : Value} (c0 : W.cell? (x.add (j * 3 + 0)) = some v0) (c1 : W.cell? (x.add (j * 3 + 1)) = some v1) (c2 : W.cell? (x.add (j * 3 + 2)) = some v2) (i : Nat) (u : Value) (hu : [v0, v1, v2][i]? = some u) : W.cell? (x.add (j * 3 + i)) = some u := by
 match i with
 | 0 => injection hu with hu; subst hu; exact c0
 | 1 => injection hu with hu; subst hu; exact c1
 | 2 => injection hu with hu; subst hu; exact c2
 | i + 3 => simp at hu
theorem own : ownKnob Tryd.prog.godebug = none := by kernel_rfl
theorem laidOut : laidOutB Tryd.prog = true := by kernel_rfl
theorem gNone : Tryd.prog.globalNamed "silverside/bench.none" = some 0 := by kernel_rfl
theorem tNone : (Tryd.prog.globals[0]?).map (·.type) = some 137 := by kernel_rfl
theorem door_met (os : Os) (args : Array Value) : laidMetH Tryd.prog Rows.topShiftRow.laid ((World.doorLaid Tryd.prog 14 os).forCall (fun _ _ => 0) ⟨#[], args, []⟩).memory :=
 laidMetH_of_parts3 (fuel := 8) (laidMet_of_run' 8 (by kernel_rfl) (by kernel_rfl)) (by kernel_rfl) (by kernel_rfl)
theorem of_laid {W : World} (h : laidMetH Tryd.prog Rows.topShiftRow.laid W) : NoneAt W := by
 rw [MakeChecks.laidMetH_plain _ _ _ (by kernel_rfl)] at h
 obtain ⟨ps, ⟨g0, t0, cs0, f0, p0, q0, hg0, ht0, hv0, hd0, _⟩, _, _⟩ := h
 obtain rfl := Option.some.inj (gNone.symm.trans hg0)
 obtain rfl := Option.some.inj (tNone.symm.trans ht0)
 obtain ⟨y0, y1, n, hx, hl, h0, h1⟩ := trod_struct2 Tryd.underlying137 hd0
 have c3 : Tryd.prog.cellsOf 137 = 2 := by kernel_rfl
 have c1 : Tryd.prog.cellsOf 3 = 1 := by kernel_rfl
 rw [c3] at hl
 obtain ⟨l0⟩ := cs0
 obtain ⟨a, b, e⟩ := list2_of (l := l0) hl
 subst e
 have h0' : DataW.trod _ Tryd.prog W 0 _ false n 3 (([a, b].drop 0).take (Tryd.prog.cellsOf 3)) = some y0 := h0
 have h1' : DataW.trod _ Tryd.prog W 0 _ false n 3 (([a, b].drop 1).take (Tryd.prog.cellsOf 3)) = some y1 := h1
 rw [c1] at h0' h1'
 obtain ⟨k0, e0, f0, _⟩ := DataW.trod_int Tryd.underlying3 h0'
 obtain ⟨k1, e1, f1, _⟩ := DataW.trod_int Tryd.underlying3 h1'
 subst f0 f1
 have hd : DataW.agg [DataW.lit (.int .i64 (-1)), DataW.lit (.int .i64 (-1))] = DataW.agg [DataW.lit (.int .i64 k0), DataW.lit (.int .i64 k1)] := (Prod.mk.inj hx).1
 simp at hd e0 e1
 obtain ⟨rfl, rfl⟩ := hd
 subst e0 e1
 exact ⟨World.var?_cell hg0 hv0 0, World.var?_cell hg0 hv0 1⟩
theorem open_blanks {H : Type} {enc : TypeId × Value → H} {W : World} {v : Value} {n : Nat} {y : DataW H × List MemPlace} (hf : DataW.trod enc Tryd.prog W 0 (fun _ => true) true n 22 [v] = some y) :
  ∃ (a : Option Addr) (l : List S34) (cap : Nat), v = .slice a l.length cap ∧ l.length ≤ cap ∧ Kd.C k34 W a l.length l := by
 rcases Go.Deep.open_slice Tryd.underlying22 hf with ⟨hcs, _⟩ | ⟨x, len, cap, m, n, D, Pl, hcs, hb, hl, hm, hmm, hx, hcell⟩
 ·obtain rfl := List.head_eq_of_cons_eq hcs
  exact ⟨none, [], 0, rfl, Nat.le_refl _, Kd.C_nil _ _⟩
 ·obtain rfl := List.head_eq_of_cons_eq hcs
  have hlm : len ≤ m := by
   rw [hmm]
   split
   ·exact hl
   ·exact Nat.le_refl _
  have ce : Tryd.prog.cellsOf 34 = 3 := by kernel_rfl
  have c1 : Tryd.prog.cellsOf 3 = 1 := by kernel_rfl
  have each : ∀ i, i < len → ∃ s : S34, W.cell? (x.add (i * 3 + 0)) = some (.int .i64 s.f0) ∧ W.cell? (x.add (i * 3 + 1)) = some (.int .i64 s.f1) ∧ W.cell? (x.add (i * 3 + 2)) = some (.int .i64 s.f2) := by
   intro i hi
   obtain ⟨cs', h1, h2⟩ := hcell i (by omega)
   rw [ce] at h1
   obtain ⟨_, hlen, hc⟩ := World.cells?_some h1
   obtain ⟨y0, y1, y2, k, _, _, g0, g1, g2⟩ := Go.Deep.trod_struct3 Tryd.underlying34 h2
   obtain ⟨v0, v1, v2, e⟩ := list3_of (l := cs') hlen
   subst e
   have g0' : DataW.trod enc Tryd.prog W 0 _ true k 3 (([v0, v1, v2].drop 0).take (Tryd.prog.cellsOf 3)) = some y0 := g0
   have g1' : DataW.trod enc Tryd.prog W 0 _ true k 3 (([v0, v1, v2].drop 1).take (Tryd.prog.cellsOf 3)) = some y1 := g1
   have g2' : DataW.trod enc Tryd.prog W 0 _ true k 3 (([v0, v1, v2].drop 2).take (Tryd.prog.cellsOf 3)) = some y2 := g2
   rw [c1] at g0' g1' g2'
   obtain ⟨z0, e0, _, _⟩ := DataW.trod_int Tryd.underlying3 g0'
   obtain ⟨z1, e1, _, _⟩ := DataW.trod_int Tryd.underlying3 g1'
   obtain ⟨z2, e2, _, _⟩ := DataW.trod_int Tryd.underlying3 g2'
   simp at e0 e1 e2
   subst e0 e1 e2
   have a0 := hc 0 (by omega)
   have a1 := hc 1 (by omega)
   have a2 := hc 2 (by omega)
   rw [add_add] at a0 a1 a2
   exact ⟨⟨z0, z1, z2⟩, a0, a1, a2⟩
  obtain ⟨F, hF⟩ : ∃ F : Nat → S34, ∀ i, i < len → W.cell? (x.add (i * 3 + 0)) = some (.int .i64 (F i).f0) ∧ W.cell? (x.add (i * 3 + 1)) = some (.int .i64 (F i).f1) ∧ W.cell? (x.add (i * 3 + 2)) = some (.int .i64 (F i).f2) := by
   refine ⟨fun i => if h : i < len then Classical.choose (each i h) else z34, fun i hi => ?_⟩
   simp only [dif_pos hi]; exact Classical.choose_spec (each i hi)
  refine ⟨some x, (List.range len).map F, cap, by simp, by simpa using hl, ?_⟩
  have hmax : maxLen = 9223372036854775807 := rfl
  refine ⟨rfl, by simp; omega, fun _ => ⟨x, rfl, fun j s hj => ?_⟩⟩
  rw [List.getElem?_map] at hj
  by_cases hjl : j < len
  ·rw [List.getElem?_range hjl] at hj
   obtain rfl := Option.some.inj hj
   obtain ⟨c0, c1, c2⟩ := hF j hjl
   exact ⟨_, rfl, k34_mk _ _, cells3_of c0 c1 c2⟩
  ·rw [List.getElem?_eq_none (by simpa using hjl)] at hj; simp at hj
set_option maxRecDepth 100000 in
theorem lifted (os : Os) (started : os.Started) (H : Type) (enc : TypeId × Value → H) :
  ReturnsInHanded {} Tryd.checked os 3 .any (fun w args => (Rows.topShiftSpec.pre enc Tryd.prog Tryd.f3 [] false w args ∧ laidMetH Tryd.prog Rows.topShiftRow.laid w) ∧ sizedMet enc Tryd.prog Tryd.f3 (OpenSpec.ofChange Rows.topShiftSpec) false w args)
   (Rows.topShiftSpec.post enc Tryd.prog Tryd.f3 false true false false) := by
 refine returnsInHanded_of_change_and (C := Tryd.checked) (X := fun w _ => laidMetH Tryd.prog Rows.topShiftRow.laid w) (fun _ _ _ hh h => h.of_heap hh) own started (by kernel_rfl) Tryd.func3
  (ChangeSpec.witness_shaped (enc := enc) (C := Tryd.checked) (os := os) (X := fun w _ => laidMetH Tryd.prog Rows.topShiftRow.laid w) false (World.doorLaid Tryd.prog 14 os) #[.agg #[.int .i64 0, .int .i64 0, .slice none 0 0], .int .i64 0] 8 rfl (World.shaped_of_RefB (by kernel_rfl) (by kernel_rfl)) (by kernel_rfl) (by kernel_rfl) (by kernel_rfl) (door_met os _)) ?_
 intro W base args ds gs before hval0 hW _ _ hL _
 have hval : ∀ (j : Nat) t v, Tryd.f3.params[j]? = some t → args[j]? = some v → Value.okWide Tryd.prog W .any base t v := hval0
 have hW' := hW
 obtain ⟨p, q, hA0, hV, rfl, hfz, hnd⟩ := hW
 have hA : DataW.TrodAll enc Tryd.prog W 0 (fun _ => true) true Tryd.f3.params.toList args.toList ds p := hA0
 rw [Tryd.params3] at hA hval
 obtain ⟨v0, vs0, d0, ds0, p0, q0, hargs, rfl, rfl, h0, r0⟩ := trodAll_cons hA
 obtain ⟨v1, vs1, d1, ds1, p1, q1, rfl, rfl, rfl, h1, r1⟩ := trodAll_cons r0
 obtain ⟨rfl, rfl, rfl⟩ := trodAll_nil r1
 obtain rfl : args = #[v0, v1] := by cases args; simp_all
 obtain ⟨rfl, rfl⟩ := trodVars_none hV
 have k0 := h0
 have lt0 : ∀ x ∈ p0, x.block < W.heap.size := by obtain ⟨m, hm⟩ := k0; exact DataW.trod_lt m _ _ _ hm
 obtain ⟨a1, rfl, rfl, rfl, w1⟩ := open_int Tryd.underlying3 (hval 1 3 v1 rfl rfl) h1
 obtain ⟨u0, u1, u2, y0, y1, y2, n, rfl, _, _, g0, g1, g2⟩ := Go.Joins.open_agg3 Tryd.underlying24 (by kernel_rfl) (by kernel_rfl) (hval 0 24 v0 rfl rfl) h0
 obtain ⟨W0, e0, _, _⟩ := DataW.trod_int Tryd.underlying3 g0
 obtain ⟨H0, e1, _, _⟩ := DataW.trod_int Tryd.underlying3 g1
 obtain ⟨A0, l0, c0, rfl, hc0, hr0⟩ := open_blanks g2
 obtain rfl := List.head_eq_of_cons_eq e0
 obtain rfl := List.head_eq_of_cons_eq e1
 clear hA0 hval0
 refine (shift_walk W0 H0 A0 c0 l0 a1 W hr0 hc0 (of_laid hL)).mono fun e W' ⟨he, bel⟩ => ?_
 subst he
 exact ⟨_, rfl, _, _, _, [], _, [], hW', trodAll_mk1 (shut_bool Tryd.underlying4 _), (trodAll_cons_mk (Below.trod laidOut (by kernel_rfl) (of_decide_eq_true (by kernel_rfl)) k0 bel lt0) (trodAll_cons_mk (shut_int Tryd.underlying3 w1) trodAll_mk0)), rfl, bel.frame _, fun h => by cases h⟩
theorem over : Rows.topShiftRow.holds Tryd.pinned (OpenSpec.ofChange Rows.topShiftSpec) :=
 OpenClaim.holds_of_wide 3 Tryd.f3 rfl rfl rfl rfl rfl rfl rfl ⟨rfl, rfl, rfl, rfl, rfl⟩ rfl rfl rfl rfl rfl (by kernel_rfl) Tryd.func3 (by kernel_rfl)
  (of_decide_eq_true (by kernel_rfl)) (by unfold Func.isWrapper; first | (rw [if_pos (by decide +kernel)]; kernel_rfl) | (rw [if_neg (by decide +kernel)]; exact ⟨rfl, rfl⟩))
  (fun os started H enc _ => lifted os started H enc)
theorem proved : Rows.TopShiftCardSaid :=
 Claim7.holds_tied_plain_at .later [] [.data] true (true, "ba2591ffae879231354a8d0794da60529ae193f4d30c7609f3e1b71ac640870e") false
  over (fun _ h => by cases h) (by kernel_rfl) (fun _ h => by cases h) topShift_row_tie rfl ⟨rfl, rfl⟩ (by kernel_rfl) rfl
  (fun f fn hf hfn => by
   obtain rfl : f = 3 := Option.some.inj ((show Tryd.prog.funcNamed "silverside/silversidetop.TopShift" = some 3 by kernel_rfl).symm.trans hf) |>.symm
   obtain rfl : fn = Tryd.f3 := (Option.some.inj (Tryd.func3.symm.trans hfn)).symm
   exact ⟨by kernel_rfl, fun j t ht => by
    rw [Tryd.params3] at ht
    have hm : t ∈ [24, 3] := by simpa using Array.mem_of_getElem? ht
    have hall : ([24, 3].all fun u => !Tryd.prog.wantsStandIn u) = true := by kernel_rfl
    exact (show Tryd.prog.wantsStandIn t = false by simpa using List.all_eq_true.1 hall t hm)⟩)
  (by kernel_rfl)
#print axioms proved
end Go.Proofs.YtiioklboaookiaaDoor.topShift
