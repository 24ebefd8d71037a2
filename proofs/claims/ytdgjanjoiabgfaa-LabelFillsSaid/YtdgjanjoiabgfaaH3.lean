/- Sums of bytes, and a copy of a string onto a row of one's own. -/
import Derived.Test.YtdgjanjoiabgfaaProg
import Derived.Test.YtdgjanjoiabgfaaRs0
import Derived.Test.YtdgjanjoiabgfaaH0
import Derived.Below
import Derived.Deep.Draws
import Derived.Deep.AppendLies
import Derived.Maps.AppendAt
import Derived.OwnWalk
import Derived.Laws.BytesArg
import Derived.Laws.MakeOwn
import Derived.Laws.OwnMore
import Derived.Deep.OwnRows
import Derived.Tactics
import Derived.Lib.ConvBytes
import Derived.Laws.Slices
import Derived.WalkKit
import Derived.KernelRfl
import Derived.RowKit3
import Derived.Deep.LoopGhost
import Derived.Deep.QuietTactic
import Derived.BigQuiet
import Derived.WideLaws
import Derived.Deep.DeepCutAuto
import Derived.Deep.CutBlock
import Derived.Deep.RegionHeld3
import Derived.Laws.Rows
import Derived.Lib.AppendStr
import Derived.ArgAppend
import Derived.Laws.IdiomCopy
import Derived.OrdersHeld
import Derived.Laws.BitsLemmas
import Derived.RowKit
import Derived.RegionTactic
import Derived.ChangeAlike
import Derived.Deep.RegionWith
import Derived.IntWalk
import Derived.Test.YtdgjanjoiabgfaaWWords
import Derived.Test.YtdgjanjoiabgfaaWLast
import Derived.Test.YtdgjanjoiabgfaaWTab
import Derived.Test.YtdgjanjoiabgfaaWFour
import Derived.Test.YtdgjanjoiabgfaaWQPut
import Derived.Test.YtdgjanjoiabgfaaWApart
import Derived.Test.YtdgjanjoiabgfaaWArr
import Derived.Test.YtdgjanjoiabgfaaWZeros
import Derived.Test.YtdgjanjoiabgfaaWFoot
import Derived.Test.YtdgjanjoiabgfaaWKept
import Derived.Test.YtdgjanjoiabgfaaWShare
import Derived.Test.YtdgjanjoiabgfaaWN
import Derived.Test.YtdgjanjoiabgfaaWFootNe
import Derived.Test.YtdgjanjoiabgfaaWAt
import Derived.Test.YtdgjanjoiabgfaaWEqStruct
import Derived.Test.YtdgjanjoiabgfaaWRepsOne
import Derived.Test.YtdgjanjoiabgfaaWInv
import Derived.Test.YtdgjanjoiabgfaaWInvWords
import Derived.Test.YtdgjanjoiabgfaaWGuard
import Derived.Test.YtdgjanjoiabgfaaWNEv
import Derived.Test.YtdgjanjoiabgfaaWMore
import Derived.Test.YtdgjanjoiabgfaaH1
import Derived.Test.YtdgjanjoiabgfaaH2
import Derived.Lib.BufferWrite
import Derived.Laws.CopyOwn
namespace Go.Proofs.Ytdgjanjoiabgfaa.Hand
open Go.RowKit Go.Proofs.YtdgjanjoiabgfaaW.PrintWords Go.Proofs.YtdgjanjoiabgfaaW.PrintLast Go.Proofs.YtdgjanjoiabgfaaW.PrintMore
open Rs (xt pw_bd lg_pw pw_lg pw_mod)
attribute [local go_sem] max2_int min2_int max_two min_two max_three min_three max_four min_four
set_option linter.unusedVariables false
set_option linter.unusedSimpArgs false
/-! ### sums of bytes; a copy of a string onto a row of one's own -/
theorem xor_nat (k : IntKind) (j : Nat) (hj : j ≤ k.bits) (hk : ∀ n : Int, 0 ≤ n → n < 2 ^ j → k.wrap n = n) (a b : Nat) (ha : a < 2 ^ j) (hb : b < 2 ^ j) :
    Go.bits .xor k a b = ((a ^^^ b : Nat) : Int) := by
  have hp : 2 ^ j ≤ 2 ^ k.bits := Nat.pow_le_pow_right (by decide) hj
  have ha' : a % 2 ^ k.bits = a := Nat.mod_eq_of_lt (Nat.lt_of_lt_of_le ha hp)
  have hb' : b % 2 ^ k.bits = b := Nat.mod_eq_of_lt (Nat.lt_of_lt_of_le hb hp)
  have cast : ∀ n : Nat, n < 2 ^ j → ((n : Nat) : Int) < 2 ^ j := fun n h => by exact_mod_cast h
  simp only [Go.bits, BitVec.ofInt_natCast, BitVec.toNat_xor, BitVec.toNat_ofNat, ha', hb']
  exact hk _ (Int.natCast_nonneg _) (cast _ (Nat.xor_lt_two_pow ha hb))
theorem xor8 (a b : Nat) (ha : a < 256) (hb : b < 256) : Go.bits .xor .u8 (a : Int) (b : Int) = ((a ^^^ b : Nat) : Int) := xor_nat .u8 8 (by decide) wraps_u8 a b ha hb
theorem wraps_i64_8 (n : Int) (h₀ : 0 ≤ n) (h₁ : n < 2 ^ 9) : IntKind.i64.wrap n = n := by rw [IntKind.wrap_i64]; omega
theorem xor64 (a b : Nat) (ha : a < 512) (hb : b < 512) : Go.bits .xor .i64 (a : Int) (b : Int) = ((a ^^^ b : Nat) : Int) := xor_nat .i64 9 (by decide) wraps_i64_8 a b ha hb
theorem xor_in8 {x y : Int} (hx : in8 x = true) (hy : in8 y = true) : in8 (Go.bits .xor .u8 x y) = true := by
  obtain ⟨a, rfl, ha⟩ := in8_nat hx
  obtain ⟨b, rfl, hb⟩ := in8_nat hy
  rw [xor8 a b ha hb]
  have : a ^^^ b < 256 := Nat.xor_lt_two_pow (n := 8) ha hb
  exact decide_eq_true (by omega)
theorem bytesB_set {l : List Int} (h : bytesB l = true) (i : Nat) {v : Int} (hv : in8 v = true) : bytesB (l.set i v) = true := by
  refine List.all_eq_true.2 fun x hx => ?_
  rcases List.mem_or_eq_of_mem_set hx with h1 | h1
  · exact List.all_eq_true.1 h x h1
  · rw [h1]; exact hv
theorem bytesB_append {l m : List Int} (h : bytesB l = true) (h' : bytesB m = true) : bytesB (l ++ m) = true := by unfold bytesB; rw [List.all_append, show l.all in8 = true from h, show m.all in8 = true from h']; rfl
theorem bytesB_drop {l : List Int} (h : bytesB l = true) (n : Nat) : bytesB (l.drop n) = true := List.all_eq_true.2 fun x hx => List.all_eq_true.1 h x (List.mem_of_mem_drop hx)
theorem bytesB_zeros (n : Nat) : bytesB (List.replicate n 0) = true := List.all_eq_true.2 fun x hx => by rw [(List.mem_replicate.1 hx).2]; rfl
theorem bytesB_bytesOf (s : ByteArray) : bytesB (bytesOf s) = true := List.all_eq_true.2 fun x hx => by
  obtain ⟨b, _, rfl⟩ := List.mem_map.1 hx
  exact decide_eq_true (by have := b.toNat_lt; omega)
section
variable {P : Program} {ops : Array Oper} {rest : List Oper} {o : Oper} {a : Act} {Q : Exit → Act → World → Prop}
theorem R_copy_str {w0 W : World} (base : Nat) (hgd : o.guard = none) (s x : Operand) (t t' e : TypeId)
    (ho : o.op = .call { callee := .builtin .copy, args := #[s, x], argTypes := #[t, t'] }) (ht : P.underlying t = some (.slice e)) (hinfo : (P.info? e).map (·.size) = some 1)
    (v : Value) (xs : List Int) (y : ByteArray) (ok : Nat → Prop) (hs : a.eval s = v) (hx : a.eval x = .string y)
    (HO : (Kd.int .u8).R e W base ok v xs) (hl : y.size ≤ xs.length) (HB : Below base w0 W) (hbase : base ≤ W.heap.size)
    (h : ∀ w1, (Kd.int .u8).R e w1 base ok v (bytesOf y ++ xs.drop y.size) → Below base w0 w1 → wpList P ops Q rest (a.put o.dst (.int .i64 (y.size : Int))) w1) :
    wpList P ops Q (o :: rest) a W := by
  have hown := Kd.own_of_R (enc := Value.int .u8) (h1 := fun _ => rfl) HO
  have fin : ∀ w1, (Builtin.copy_ #[t, t'] o.type #[v, .string y]).run P W = .ok (goInt (y.size : Int)) w1 → (Kd.int .u8).R e w1 base ok v (bytesOf y ++ xs.drop y.size) → Below base w0 w1 → wpList P ops Q (o :: rest) a W := by
    intro w1 hr hrow hb
    refine wpList_plain hgd fun K hK => ?_
    unfold Oper.wp execOp
    simp only [ho, resolve, invoke, builtin, Sem.run_bind, Sem.run_pure, Result.andThen_ok, List.map_toArray, List.map_cons, List.map_nil, hs, hx, hr]
    exact hK _ _ (h w1 hrow hb)
  rcases hown.2 with ⟨hv, h0⟩ | ⟨g, cap, cur, hv, hb, hh, hnc, hcm, hcs, htake⟩
  · refine fin W ?_ ?_ HB
    · rw [hv, show y.size = 0 from by omega]
      exact Lib.run_copy_empty_string W t t' o.type e _ _ _ y ht (by rw [hinfo]; rfl) (by omega)
    · have e0 : bytesOf y = [] := List.eq_nil_of_length_eq_zero (by rw [bytesOf_length]; omega)
      rw [e0, show y.size = 0 from by omega]; exact HO
  · have hr := Lib.run_copy_row_string (P := P) W t t' o.type e g 0 xs.length cap y cur e ht hinfo hh hl (by omega)
    have hnew : bytesOf y ++ xs.drop y.size = bytesOf y ++ xs.drop y.size := rfl
    refine fin _ (by rw [hv]; exact hr) ?_ (below_setRow HB hb _)
    refine Kd.R_of_own (h1 := fun _ => rfl) ?_ HO.1
    have hbl : (bytesOf y).length = y.size := bytesOf_length y
    have hlen : (bytesOf y ++ xs.drop y.size).length = xs.length := by rw [List.length_append, List.length_drop, hbl]; omega
    rw [hlen]
    have hbc : (Lib.byteCells y.data.toList).length = y.size := by rw [Lib.byteCells_length, ← Lib.size_eq]
    refine ⟨by rw [encs_length, hlen, Nat.mul_one], .inr ⟨g, cap, _, hv, hb, setRow_heap W g cur _ e _ hh, hnc, hcm, ?_, ?_⟩⟩
    · simp only [List.size_toArray, List.length_append, List.length_take, List.length_drop, hbc, Array.length_toList]
      omega
    · rw [Nat.mul_one] at htake ⊢
      simp only [List.take_zero, List.nil_append, Nat.zero_add]
      rw [List.take_append, hbc, List.take_of_length_le (by rw [hbc]; exact hl), encs_append]
      congr 1
      · simp only [encs, bytesOf, Lib.byteCells, List.map_map]; rfl
      · have : encs (Value.int .u8) (xs.drop y.size) = (encs (Value.int .u8) xs).drop y.size := by simp [encs, List.map_drop]
        rw [this, ← htake, List.drop_take]
end
theorem strOfNums_size (l : List Int) : (strOfNums l).size = l.length := by show ((l.map fun n => UInt8.ofNat n.toNat).toArray).size = _; simp
end Go.Proofs.Ytdgjanjoiabgfaa.Hand
