/- What label.extend comes to: a list with zeros behind it. -/
import Derived.Test.YtdgjanjoiabgfaaProg
import Derived.Test.YtdgjanjoiabgfaaRs0
import Derived.Test.YtdgjanjoiabgfaaH0
import Derived.Below
import Derived.Deep.Draws
import Derived.Deep.AppendLies
import Derived.Maps.AppendAt
import Derived.OwnWalk
import Derived.Laws.BytesArg
import Derived.Laws.MakeOwn
import Derived.Laws.OwnMore
import Derived.Deep.OwnRows
import Derived.Tactics
import Derived.Lib.ConvBytes
import Derived.Laws.Slices
import Derived.WalkKit
import Derived.KernelRfl
import Derived.RowKit3
import Derived.Deep.LoopGhost
import Derived.Deep.QuietTactic
import Derived.BigQuiet
import Derived.WideLaws
import Derived.Deep.DeepCutAuto
import Derived.Deep.CutBlock
import Derived.Deep.RegionHeld3
import Derived.Laws.Rows
import Derived.Lib.AppendStr
import Derived.ArgAppend
import Derived.Laws.IdiomCopy
import Derived.OrdersHeld
import Derived.Laws.BitsLemmas
import Derived.RowKit
import Derived.RegionTactic
import Derived.ChangeAlike
import Derived.Deep.RegionWith
import Derived.IntWalk
import Derived.Test.YtdgjanjoiabgfaaWWords
import Derived.Test.YtdgjanjoiabgfaaWLast
import Derived.Test.YtdgjanjoiabgfaaWTab
import Derived.Test.YtdgjanjoiabgfaaWFour
import Derived.Test.YtdgjanjoiabgfaaWQPut
import Derived.Test.YtdgjanjoiabgfaaWApart
import Derived.Test.YtdgjanjoiabgfaaWArr
import Derived.Test.YtdgjanjoiabgfaaWZeros
import Derived.Test.YtdgjanjoiabgfaaWFoot
import Derived.Test.YtdgjanjoiabgfaaWKept
import Derived.Test.YtdgjanjoiabgfaaWShare
import Derived.Test.YtdgjanjoiabgfaaWN
import Derived.Test.YtdgjanjoiabgfaaWFootNe
import Derived.Test.YtdgjanjoiabgfaaWAt
import Derived.Test.YtdgjanjoiabgfaaWEqStruct
import Derived.Test.YtdgjanjoiabgfaaWRepsOne
import Derived.Test.YtdgjanjoiabgfaaWInv
import Derived.Test.YtdgjanjoiabgfaaWInvWords
import Derived.Test.YtdgjanjoiabgfaaWGuard
import Derived.Test.YtdgjanjoiabgfaaWNEv
import Derived.Test.YtdgjanjoiabgfaaWMore
namespace Go.Proofs.Ytdgjanjoiabgfaa.Hand
open Go.RowKit Go.Proofs.YtdgjanjoiabgfaaW.PrintWords Go.Proofs.YtdgjanjoiabgfaaW.PrintLast Go.Proofs.YtdgjanjoiabgfaaW.PrintMore
open Rs (xt pw_bd lg_pw pw_lg pw_mod)
attribute [local go_sem] max2_int min2_int max_two min_two max_three min_three max_four min_four
set_option linter.unusedVariables false
set_option linter.unusedSimpArgs false
theorem Try.infoU8 : (Try.prog.info? 5).map (fun i => (i.zero, i.size, i.bytes)) = some (some (.int .u8 0), 1, 1) := by kernel_rfl
theorem info_size {P : Program} {e : Nat} {z : Value} {b : Nat} (h : (P.info? e).map (fun i => (i.zero, i.size, i.bytes)) = some (some z, 1, b)) : (P.info? e).map (·.size) = some 1 := by
  cases hi : P.info? e with
  | none => rw [hi] at h; simp at h
  | some i => rw [hi] at h; simp at h; simp [h.2.1]
def label_extend.f (l0 : List Int) (a1 : Int) : Option (List Int) := if 0 ≤ a1 then (if a1 ≤ 100000 then (if (l0.length : Int) ≤ 100000 then some (l0 ++ List.replicate (a1.toNat - l0.length) 0) else none) else none) else none
set_option maxHeartbeats 1000000 in
set_option maxRecDepth 100000 in
theorem extend_walk (A0 : Option Addr) (c0 : Nat) (l0 : List Int) (a1 n : Int) (w : World) (hr0 : Kd.C (Kd.int .u8) w A0 l0.length l0) (hc0 : l0.length ≤ c0) (h0 : 0 ≤ a1) (h1 : a1 ≤ 100000) (h2 : (l0.length : Int) ≤ 100000)
    (hn : (if a1 < (l0.length : Int) then (l0.length : Int) else a1) = n) :
    Calls Try.prog 58 #[.slice A0 l0.length c0, .int .i64 a1] w fun e w' => ∃ v0_ : Value, e = .returned (v0_) ∧ Kd.R (Kd.int .u8) 5 w' w.heap.size (fun _ => True) v0_ (l0.take (min l0.length n.toNat) ++ (List.replicate n.toNat 0).drop (min l0.length n.toNat)) ∧ Below w.heap.size w w' := by
  have HR0 := Aside0.mk hr0
  have HC0 := Aside0.mk hc0
  clear hr0 hc0
  have n0 : 0 ≤ n := by rw [← hn]; split <;> omega
  have n1 : n ≤ 100000 := by rw [← hn]; split <;> omega
  have N1 := Aside0.mk n1
  go_enter Try.func58, Try.ntmps58
  go_wp2_with (first
    | ((with_reducible refine gate_dst (N := 10) rfl ?_); refine Kd.R_make (Kd.int .u8) _ 5 rfl (N := 10) rfl 58 _ _ rfl n rfl rfl Try.underlying58 (.int .u8 0) 1 Try.infoU8 rfl (by decide) (by omega) 0 (ok := fun _ => True) (okp := fun _ => True) rfl (fun _ hk => hk) trivial n0 (by have := N1.out; omega) (Below.refl _ _) (Nat.le_refl _) ?_; intro v1 w1 ho hb hg_ hnew_; clear hg_ hnew_; have HO1 := Aside0.mk ho; have HB1 := Aside0.mk hb; clear ho hb)
    | ((with_reducible refine gate_builtin (b := .copy) (xs := #[.tmp 11, .tmp 12]) rfl ?_); refine Kd.R_copy (0 : Int) w.heap.size rfl (.tmp 11) (.tmp 12) 58 58 5 rfl Try.underlying58 (info_size Try.infoU8) v1 (List.replicate n.toNat 0) l0 A0 l0.length c0 (fun _ => True) rfl rfl HO1.out (Kd.C_below HR0.out HB1.out) HB1.out HB1.out.size ?_; intro w2 ho hb hg_; clear hg_; have HO2 := Aside0.mk ho; have HB2 := Aside0.mk hb; clear ho hb))
  go_ret
  exact ⟨_, rfl, by have := HO2.out; rw [List.length_replicate] at this; exact this, HB2.out⟩
theorem label_extend.calls (A0 : Option Addr) (c0 : Nat) (l0 : List Int) (a1 : Int) (r : List Int) (w : World) (hr0 : Kd.C (Kd.int .u8) w A0 l0.length l0) (hc0 : l0.length ≤ c0) (h : label_extend.f l0 a1 = some r) :
    Calls Try.prog 58 #[.slice A0 l0.length c0, .int .i64 a1] w fun e w' => ∃ v0_ : Value, e = .returned (v0_) ∧ Kd.R (Kd.int .u8) 5 w' w.heap.size (fun _ => True) v0_ r ∧ Below w.heap.size w w' := by
  unfold label_extend.f at h
  by_cases h0 : 0 ≤ a1
  · by_cases h1 : a1 ≤ 100000
    · by_cases h2 : (l0.length : Int) ≤ 100000
      · rw [if_pos h0, if_pos h1, if_pos h2] at h
        obtain rfl := Option.some.inj h
        refine (extend_walk A0 c0 l0 a1 _ w hr0 hc0 h0 h1 h2 rfl).mono ?_
        rintro e w' ⟨v, rfl, ho, hb⟩
        refine ⟨v, rfl, ?_, hb⟩
        have e : l0 ++ List.replicate (a1.toNat - l0.length) 0 = (l0.take (min l0.length (if a1 < (l0.length : Int) then (l0.length : Int) else a1).toNat) ++ (List.replicate (if a1 < (l0.length : Int) then (l0.length : Int) else a1).toNat 0).drop (min l0.length (if a1 < (l0.length : Int) then (l0.length : Int) else a1).toNat)) := by
          split
          · rw [show (l0.length : Int).toNat = l0.length from rfl, Nat.min_self, List.take_length, show a1.toNat - l0.length = 0 from by omega]; simp
          · rw [Nat.min_eq_left (by omega), List.take_length, List.drop_replicate]
        rw [e]; exact ho
      · rw [if_pos h0, if_pos h1, if_neg h2] at h; exact absurd h (by simp)
    · rw [if_pos h0, if_neg h1] at h; exact absurd h (by simp)
  · rw [if_neg h0] at h; exact absurd h (by simp)
end Go.Proofs.Ytdgjanjoiabgfaa.Hand
