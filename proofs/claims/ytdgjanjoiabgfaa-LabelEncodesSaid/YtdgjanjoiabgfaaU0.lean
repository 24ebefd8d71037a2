/- Rounds, bytes, products: what the pure laws share. -/
import Derived.Test.YtdgjanjoiabgfaaQ26
import Derived.Test.YtdgjanjoiabgfaaQ7
import Derived.Test.YtdgjanjoiabgfaaQ8
import Derived.Test.YtdgjanjoiabgfaaQ10
namespace Go.Proofs.Ytdgjanjoiabgfaa.Pure
open Go.RowKit Go.Proofs.Ytdgjanjoiabgfaa.Q Go.Proofs.YtdgjanjoiabgfaaW.PrintWords Go.Proofs.YtdgjanjoiabgfaaW.PrintLast Go.Proofs.YtdgjanjoiabgfaaW.PrintMore
set_option linter.unusedVariables false
set_option linter.unusedSimpArgs false
/-! ### numbers and rounds -/
theorem awake_40 : silversidelaw03_awake.f 40 = some true := by decide +kernel
theorem awakeE : Ev (fun k => silversidelaw03_awake.f k) true := Ev.of (fun k => silversidelaw03_awake.mono k) awake_40
theorem Ev.bind' {α β : Type} {x : Option α} {f : Nat → α → Option β} {a : α} {r : β} (h : x = some a) (k : Ev (fun n => f n a) r) : Ev (fun n => x.bind (f n)) r := by
  obtain ⟨K, k⟩ := k
  exact ⟨K, fun n hn => by rw [h]; exact k n hn⟩
theorem Ev.cong {α : Type} {g f : Nat → Option α} {r : α} (k : Ev f r) (h : ∀ k, g k = f k) : Ev g r := Ev.congr h k
theorem Ev.pos {α : Type} {c : Prop} [Decidable c] {f g : Nat → Option α} {r : α} (h : c) (k : Ev f r) : Ev (fun n => if c then f n else g n) r := Ev.cong k (fun _ => if_pos h)
theorem Ev.neg {α : Type} {c : Prop} [Decidable c] {f g : Nat → Option α} {r : α} (h : ¬ c) (k : Ev g r) : Ev (fun n => if c then f n else g n) r := Ev.cong k (fun _ => if_neg h)
theorem awake_end : Ev (fun k => (silversidelaw03_awake.f k).bind fun t => some t) true := Ev.bind awakeE (Ev.now true)
theorem nat_of_u8 {a : Int} (h : (Lit.int .u8 a).wf = true) : ∃ n : Nat, a = n ∧ n < 256 := by
  have : (Lit.int .u8 a).wf = true ↔ 0 ≤ a ∧ a ≤ 255 := by simp [Lit.wf, IntKind.min, IntKind.max, IntKind.signed, IntKind.bits]
  have := this.1 h
  exact ⟨a.toNat, by omega, by omega⟩
theorem w64 {n : Int} (h0 : -1000000 ≤ n) (h1 : n ≤ 1000000) : wrap64 n = n := Hand.w64_in n h0 h1
theorem in8_of {n : Nat} (h : n < 256) : Hand.in8 (n : Int) = true := decide_eq_true (by omega)
theorem mulT {a b : Nat} (ha : a < 256) (hb : b < 256) : Hand.label_mul.f (a : Int) (b : Int) = some ((Rs.mulN a b : Nat) : Int) := by
  rw [Hand.label_mul.some (in8_of ha) (in8_of hb), Int.toNat_natCast, Int.toNat_natCast]
theorem MulT {a b : Nat} (ha : a < 256) (hb : b < 256) : label_Mul.f (a : Int) (b : Int) = some ((Rs.mulN a b : Nat) : Int) := by
  unfold label_Mul.f; rw [mulT ha hb]; rfl
theorem invT {a : Nat} (ha : a < 256) : Hand.label_inv.f (a : Int) = some ((Rs.invN a : Nat) : Int) := by
  unfold Hand.label_inv.f; rw [if_pos (in8_of ha), Int.toNat_natCast]
theorem xt_mul {b : Nat} (hb : b < 256) : Rs.xt b = Rs.mulN 2 b := by
  have := Rs.pw_mul 0 b hb
  rw [show Rs.pw (0 + 1) = 2 from rfl, show Rs.pw 0 = 1 from rfl, Rs.mulN_comm 1 b, Rs.mulN_one b hb] at this
  exact this.symm
theorem xt_lt {b : Nat} (hb : b < 256) : Rs.xt b < 256 := (Rs.xt_bits b hb).2
theorem mul_xt {x q : Nat} (hx : x < 256) (hq : q < 256) : Rs.mulN x (Rs.xt q) = Rs.mulN (Rs.xt x) q := by
  rw [xt_mul hq, xt_mul hx, ← Rs.mulN_assoc x 2 q hx (by omega) hq, Rs.mulN_comm x 2]
theorem xt_step {x : Nat} (hx : x < 256) : (if wrap64 (2 * (x : Int)) > 255 then Go.bits .xor .i64 (wrap64 (2 * (x : Int))) 285 else wrap64 (2 * (x : Int))) = (Rs.xt x : Nat) := by
  rw [w64 (by omega) (by omega)]
  unfold Rs.xt
  by_cases h : 2 * x > 255
  · rw [if_pos (by omega), if_pos h]
    have := Hand.xor64 (2 * x) 285 (by omega) (by omega)
    rw [← this]; simp
  · rw [if_neg (by omega), if_neg h]; omega
theorem half_step {x : Nat} (hx : x < 100000) : wrap64 (Int.tdiv (x : Int) 2) = (x / 2 : Nat) := by
  rw [Int.tdiv_eq_ediv_of_nonneg (by omega), w64 (by omega) (by omega)]; omega
theorem odd_step (x : Nat) : Int.tmod (x : Int) 2 = (x % 2 : Nat) := by
  rw [Int.tmod_eq_emod_of_nonneg (by omega)]; omega
theorem xor_two (q r : Nat) (hr : r < 2) : r ^^^ (2 * q) = 2 * q + r := by
  apply Nat.eq_of_testBit_eq
  intro i
  rw [Nat.testBit_xor]
  cases i with
  | zero => rcases (show r = 0 ∨ r = 1 by omega) with rfl | rfl <;> simp [Nat.testBit_zero]
  | succ i =>
    rw [Nat.testBit_succ, Nat.testBit_succ, Nat.testBit_succ, show r / 2 = 0 by omega, show 2 * q / 2 = q by omega, show (2 * q + r) / 2 = q by omega]; simp
theorem refMul_l0 (n : Nat) : ∀ (x y o : Nat), x < 256 → y < 2 ^ n → n ≤ 8 → o < 256 → silversideref03_Mul.l0 (n + 1) (x : Int) (y : Int) (o : Int) = some ((o ^^^ Rs.mulN x y : Nat) : Int) := by
  induction n with
  | zero =>
    intro x y o hx hy _ ho
    have hy0 : y = 0 := by simpa using hy
    subst hy0
    simp only [silversideref03_Mul.l0]
    rw [if_neg (by omega), Rs.mulN_zero, Nat.xor_zero]
  | succ n ih =>
    intro x y o hx hy hn ho
    have h2n : 2 ^ (n + 1) ≤ 2 ^ 8 := Nat.pow_le_pow_right (by omega) hn
    have hy8 : y < 256 := by omega
    by_cases y0 : y = 0
    · subst y0
      simp only [silversideref03_Mul.l0]
      rw [if_neg (by omega), Rs.mulN_zero, Nat.xor_zero]
    · obtain ⟨q, hq⟩ : ∃ q, q = y / 2 := ⟨_, rfl⟩
      have hq2 : q < 2 ^ n := by rw [hq]; rw [Nat.pow_succ] at hy; omega
      have hq1 : q < 128 := by omega
      have hxq : Rs.xt q = 2 * q := by unfold Rs.xt; rw [if_neg (by omega)]
      have split : Rs.mulN x y = Rs.mulN x (y % 2) ^^^ Rs.mulN (Rs.xt x) q := by
        have e : y = (y % 2) ^^^ (2 * q) := by rw [xor_two q _ (by omega)]; omega
        rw [← mul_xt hx (by omega), hxq]
        conv => lhs; rw [e]
        exact Rs.mulN_xor x _ _ hx (by omega) (by omega)
      rw [show silversideref03_Mul.l0 (n + 1 + 1) (x : Int) (y : Int) (o : Int) = (if (y : Int) > 0 then (if Int.tmod (y : Int) 2 = 1 then silversideref03_Mul.l0 (n + 1) (if wrap64 (2 * (x : Int)) > 255 then Go.bits .xor .i64 (wrap64 (2 * (x : Int))) 285 else wrap64 (2 * (x : Int))) (wrap64 (Int.tdiv (y : Int) 2)) (Go.bits .xor .i64 (o : Int) (x : Int)) else silversideref03_Mul.l0 (n + 1) (if wrap64 (2 * (x : Int)) > 255 then Go.bits .xor .i64 (wrap64 (2 * (x : Int))) 285 else wrap64 (2 * (x : Int))) (wrap64 (Int.tdiv (y : Int) 2)) (o : Int)) else some (o : Int)) from by
        rw [silversideref03_Mul.l0]
        by_cases h : wrap64 (2 * (x : Int)) > 255
        · simp only [if_pos h]
        · simp only [if_neg h]]
      rw [if_pos (by omega), xt_step hx, half_step (by omega), odd_step, ← hq, Hand.xor64 o x (by omega) (by omega), split]
      have hox : o ^^^ x < 256 := Nat.xor_lt_two_pow (n := 8) ho hx
      rcases (show y % 2 = 0 ∨ y % 2 = 1 by omega) with h | h
      · rw [h, if_neg (by omega), ih (Rs.xt x) q o (xt_lt hx) hq2 (by omega) ho, Rs.mulN_zero, Nat.zero_xor]
      · rw [h, if_pos (by omega), ih (Rs.xt x) q (o ^^^ x) (xt_lt hx) hq2 (by omega) hox, Rs.mulN_one x hx, Nat.xor_assoc]
theorem refMul9 {a b : Nat} (ha : a < 256) (hb : b < 256) : silversideref03_Mul.f 9 (a : Int) (b : Int) = some ((Rs.mulN a b : Nat) : Int) := by
  unfold silversideref03_Mul.f
  have := refMul_l0 8 a b 0 ha hb (Nat.le_refl _) (by omega)
  rw [Nat.zero_xor] at this
  exact this
theorem refMulE {a b : Nat} (ha : a < 256) (hb : b < 256) : Ev (fun k => silversideref03_Mul.f k (a : Int) (b : Int)) ((Rs.mulN a b : Nat) : Int) := Ev.of (fun k => silversideref03_Mul.mono _ _ k) (refMul9 ha hb)
theorem InverseT {a : Nat} (ha : a < 256) (h0 : a ≠ 0) : label_Inverse.f (a : Int) = some (((Rs.invN a : Nat) : Int), 0) := by
  unfold label_Inverse.f; rw [if_neg (by omega), invT ha]; rfl
end Go.Proofs.Ytdgjanjoiabgfaa.Pure
