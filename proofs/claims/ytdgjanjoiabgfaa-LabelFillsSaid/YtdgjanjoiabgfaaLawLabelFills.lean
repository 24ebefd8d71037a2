/- LabelFills: lost and changed positions that the check bytes suffice for are mended by Decode; no condition. -/
import Derived.Test.YtdgjanjoiabgfaaRows
import Derived.Test.YtdgjanjoiabgfaaQ21
import Derived.Test.YtdgjanjoiabgfaaPureLabelFills
import Derived.WalkKit
import Derived.ProofKit
import Derived.OpenShut
import Derived.ShutString
import Derived.ChangeOld
import Derived.Below
import Derived.SizedLaws
import Derived.Deep.SlicePairs
import Derived.Test.YtdgjanjoiabgfaaWSized
namespace Go.Proofs.Ytdgjanjoiabgfaa.labelFills
open Go.ChangeShapes Go.WideShapes Go.ChangeAt Go.RowKit Go.Proofs.YtdgjanjoiabgfaaW.PrintWords Go.Proofs.Ytdgjanjoiabgfaa.Q
open Go.ChangeMaps (open_string shut_string)
set_option linter.unusedVariables false
theorem own : ownKnob Try.prog.godebug = none := by kernel_rfl
theorem laidOut : laidOutB Try.prog = true := by kernel_rfl
/-- a list of changes that came in -/
theorem open_changes {H : Type} {enc : TypeId × Value → H} {W : World} {a : Option Addr} {len cap : Nat} {d : DataW H} {ps : List MemPlace} (h : DataW.Trod enc Try.prog W 0 (fun _ => true) true 38 (.slice a len cap) d ps)
    {ts : List TypeId} {ds : List (DataW H)} {j : Nat} (hsz : (DataW.weightsEach Try.prog ts ds).all (· ≤ reachBytes) = true) (ht : ts[j]? = some 38) (hd : ds[j]? = some d) :
    ∃ l : List S47, len = l.length ∧ l.length ≤ cap ∧ Kd.C k47 W a l.length l ∧ (∀ x, x ∈ l → 0 ≤ x.f1 ∧ x.f1 ≤ 255) ∧ l.length ≤ 8796093022208 := by
  obtain ⟨fuel, hf⟩ := h
  rcases Go.Deep.open_slice_pairs Try.underlying38 Try.underlying47 (by kernel_rfl) rfl rfl (by kernel_rfl) (by kernel_rfl) hf with ⟨hcs, _⟩ | ⟨x, l, c, m, n, V0, V1, D0, D1, P0, P1, hcs, _, hl, hm, hmm, hx, hcell⟩
  · simp [Value.cells] at hcs
    obtain ⟨rfl, rfl, rfl⟩ := hcs
    exact ⟨[], rfl, Nat.le_refl _, Kd.C_nil _ _, fun x hx => by simp at hx, by simp⟩
  · simp [Value.cells] at hcs
    obtain ⟨rfl, rfl, rfl⟩ := hcs
    obtain ⟨hx, _⟩ := Prod.mk.inj hx
    subst hx
    have hlm : len ≤ m := by
      rw [hmm]
      split
      · exact hl
      · exact Nat.le_refl _
    have each : ∀ i, i < len → ∃ s : S47, V0 i = .int .i64 s.f0 ∧ V1 i = .int .u8 s.f1 ∧ 0 ≤ s.f1 ∧ s.f1 ≤ 255 := by
      intro i hi
      obtain ⟨_, _, h0, h1⟩ := hcell i (by omega)
      obtain ⟨z0, e0, _, _⟩ := DataW.trod_int Try.underlying3 h0
      obtain ⟨z1, e1, _, w1⟩ := DataW.trod_int Try.underlying5 h1
      have w1' : 0 ≤ z1 ∧ z1 ≤ 255 := by
        have : (Lit.int .u8 z1).wf = true ↔ 0 ≤ z1 ∧ z1 ≤ 255 := by simp [Lit.wf, IntKind.min, IntKind.max, IntKind.signed, IntKind.bits]
        exact this.1 w1
      exact ⟨⟨z0, z1⟩, by simpa using e0, by simpa using e1, w1'.1, w1'.2⟩
    obtain ⟨F, hF⟩ : ∃ F : Nat → S47, ∀ i, i < len → V0 i = .int .i64 (F i).f0 ∧ V1 i = .int .u8 (F i).f1 ∧ 0 ≤ (F i).f1 ∧ (F i).f1 ≤ 255 := by
      refine ⟨fun i => if h : i < len then Classical.choose (each i h) else z47, fun i hi => ?_⟩
      simp only [dif_pos hi]; exact Classical.choose_spec (each i hi)
    have z := sized_slice hsz ht hd Try.underlying38
    have hB : Try.prog.bytesOf 47 = 16 := by kernel_rfl
    rw [hB] at z
    simp only [List.length_map, List.length_range] at z
    have z2 : (len + (m - len)) * 16 ≤ 140737488351232 := z
    refine ⟨(List.range len).map F, by simp, by simpa using hl, ?_, fun s hs => ?_, by simp; omega⟩
    · have hmax : maxLen = 9223372036854775807 := rfl
      refine ⟨rfl, by simp; omega, fun _ => ⟨x, rfl, fun j s hj => ?_⟩⟩
      rw [List.getElem?_map] at hj
      by_cases hjl : j < len
      · rw [List.getElem?_range hjl] at hj
        obtain rfl := Option.some.inj hj
        obtain ⟨c0, c1, _, _⟩ := hcell j (by omega)
        obtain ⟨e0, e1, _, _⟩ := hF j hjl
        rw [e0] at c0
        rw [e1] at c1
        refine ⟨_, rfl, k47_mk _ _, fun i u hu => ?_⟩
        match i with
        | 0 => injection hu with hu; subst hu; exact c0
        | 1 => injection hu with hu; subst hu; exact c1
        | i + 2 => simp at hu
      · rw [List.getElem?_eq_none (by simpa using hjl)] at hj; simp at hj
    · obtain ⟨i, hi, rfl⟩ := List.mem_map.1 hs
      obtain ⟨_, _, b0, b1⟩ := hF i (List.mem_range.1 hi)
      exact ⟨b0, b1⟩
set_option maxRecDepth 100000 in
theorem lifted (os : Os) (started : os.Started) (H : Type) (enc : TypeId × Value → H) :
    ReturnsInHanded {} Try.checked os 6 .any (Rows.labelFillsSpec.pre6 enc Try.prog Try.f6 Rows.labelFillsRow.domain false) (Rows.labelFillsSpec.post enc Try.prog Try.f6 false true false false) := by
  refine returnsInHanded_of_change_sized (C := Try.checked) own started (by kernel_rfl) Try.func6
    (ChangeSpec.witness6 (enc := enc) (C := Try.checked) false ⟨#[], #[.string ByteArray.empty, .int .i64 0, .slice none 0 0, .slice none 0 0], []⟩ 6 (by kernel_rfl) (by kernel_rfl) (by kernel_rfl) (by kernel_rfl)) ?_
  intro W base args ds gs before hval0 hW hcnd hsz0 _
  have hsz : (DataW.weightsEach Try.prog (Try.f6.params.toList ++ Rows.labelFillsSpec.plain.varTypes Try.prog) (ds ++ gs)).all (· ≤ reachBytes) = true := hsz0
  have hval : ∀ (j : Nat) t v, Try.f6.params[j]? = some t → args[j]? = some v → Value.okWide Try.prog W .any base t v := hval0
  have hW' := hW
  obtain ⟨p, q, hA0, hV, rfl, hfz, hnd⟩ := hW
  have hA : DataW.TrodAll enc Try.prog W 0 (fun _ => true) true Try.f6.params.toList args.toList ds p := hA0
  rw [Try.params6] at hA hval hsz
  obtain ⟨v0, vs0, d0, ds0, p0, q0, hargs, rfl, rfl, h0, r0⟩ := trodAll_cons hA
  obtain ⟨v1, vs1, d1, ds1, p1, q1, rfl, rfl, rfl, h1, r1⟩ := trodAll_cons r0
  obtain ⟨v2, vs2, d2, ds2, p2, q2, rfl, rfl, rfl, h2, r2⟩ := trodAll_cons r1
  obtain ⟨v3, vs3, d3, ds3, p3, q3, rfl, rfl, rfl, h3, r3⟩ := trodAll_cons r2
  obtain ⟨rfl, rfl, rfl⟩ := trodAll_nil r3
  obtain rfl : args = #[v0, v1, v2, v3] := by cases args; simp_all
  obtain ⟨rfl, rfl⟩ := trodVars_none hV
  obtain ⟨a0, rfl, rfl, rfl, y0⟩ := open_string Try.underlying9 (hval 0 9 v0 rfl rfl) h0
  obtain ⟨a1, rfl, rfl, rfl, w1⟩ := open_int Try.underlying3 (hval 1 3 v1 rfl rfl) h1
  obtain ⟨a2, len2, cap2, rfl⟩ := okWide_slice Try.underlying38 (hval 2 38 v2 rfl rfl)
  have k2 := h2
  have lt2 : ∀ x ∈ p2, x.block < W.heap.size := by obtain ⟨m, hm⟩ := k2; exact DataW.trod_lt m _ _ _ hm
  obtain ⟨l2, rfl, hc2, hr2, hb2, hm2⟩ := open_changes h2 hsz (j := 2) rfl rfl
  obtain ⟨a3, len3, cap3, rfl⟩ := okWide_slice Try.underlying38 (hval 3 38 v3 rfl rfl)
  have k3 := h3
  have lt3 : ∀ x ∈ p3, x.block < W.heap.size := by obtain ⟨m, hm⟩ := k3; exact DataW.trod_lt m _ _ _ hm
  obtain ⟨l3, rfl, hc3, hr3, hb3, hm3⟩ := open_changes h3 hsz (j := 3) rfl rfl
  clear hA0 hval0 hsz0 hsz
  obtain ⟨k, h⟩ := Pure.LabelFills a0 a1 l2 l3 hb2 hb3 hm3
  refine (silversidelaw03_LabelFills.calls k a0 a1 _ _ l2 _ _ l3 true W hr2 hc2 hr3 hc3 h).mono fun e W' ⟨he, bel⟩ => ?_
  subst he
  exact ⟨_, rfl, _, _, _, [], _, [], hW', trodAll_mk1 (shut_bool Try.underlying4 _), (trodAll_cons_mk (shut_string Try.underlying9 y0) (trodAll_cons_mk (shut_int Try.underlying3 w1) (trodAll_cons_mk (Below.trod laidOut (by kernel_rfl) (of_decide_eq_true (by kernel_rfl)) k2 bel lt2) (trodAll_cons_mk (Below.trod laidOut (by kernel_rfl) (of_decide_eq_true (by kernel_rfl)) k3 bel lt3) trodAll_mk0)))), rfl, bel.frame _, fun h => by cases h⟩
theorem over : Rows.labelFillsRow.holds Try.pinned (OpenSpec.ofChange Rows.labelFillsSpec) :=
  OpenClaim.holds_of_wide 6 Try.f6 rfl rfl rfl rfl rfl rfl rfl ⟨rfl, rfl, rfl, rfl, rfl⟩ rfl rfl rfl rfl rfl (by kernel_rfl) Try.func6 (by kernel_rfl)
    (of_decide_eq_true (by kernel_rfl)) (by unfold Func.isWrapper; first | (rw [if_pos (by decide +kernel)]; kernel_rfl) | (rw [if_neg (by decide +kernel)]; exact ⟨rfl, rfl⟩))
    (fun os started H enc _ => lifted os started H enc)
theorem proved : Rows.LabelFillsSaid := over
#print axioms proved
end Go.Proofs.Ytdgjanjoiabgfaa.labelFills
namespace Go.Proofs.Ytdgjanjoiabgfaa
/-- The row, under a short name, for the claim. -/
theorem labelFills_holds : Rows.LabelFillsSaid := labelFills.proved
end Go.Proofs.Ytdgjanjoiabgfaa
