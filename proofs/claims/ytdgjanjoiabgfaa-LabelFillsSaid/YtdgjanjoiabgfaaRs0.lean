/- The field of 256 elements by the powers of 2. Plain: no program in sight. -/
namespace Go.Proofs.Ytdgjanjoiabgfaa.Rs

/-- twice an element -/
def xt (a : Nat) : Nat := if 2 * a > 255 then (2 * a) ^^^ 285 else 2 * a
/-- the powers of 2 -/
def pw : Nat → Nat
  | 0 => 1
  | n + 1 => xt (pw n)
def lgFrom : Nat → Nat → Nat → Nat → Nat
  | 0, _, _, _ => 0
  | k + 1, i, x, a => if x = a then i else lgFrom k (i + 1) (xt x) a
def lg (a : Nat) : Nat := lgFrom 255 0 1 a
def mulN (a b : Nat) : Nat := if a = 0 ∨ b = 0 then 0 else pw (lg a + lg b)
def invN (a : Nat) : Nat := pw (255 - lg a)

theorem lg_pw : ∀ n, n < 255 → lg (pw n) = n := by decide +kernel
theorem pw_bd0 : ∀ n, n < 255 → pw n < 256 ∧ pw n ≠ 0 := by decide +kernel
theorem pw_lg : ∀ a, a < 256 → a ≠ 0 → lg a < 255 ∧ pw (lg a) = a := by decide +kernel
theorem pw_255 : pw 255 = 1 := by decide +kernel
theorem xt_bits : ∀ a, a < 256 → xt a = (2 * a) ^^^ (285 * (a / 128)) ∧ xt a < 256 := by decide +kernel

theorem xt_xor (a b : Nat) (ha : a < 256) (hb : b < 256) : xt (a ^^^ b) = xt a ^^^ xt b := by
  have hab : a ^^^ b < 256 := Nat.xor_lt_two_pow (n := 8) ha hb
  rw [(xt_bits _ hab).1, (xt_bits _ ha).1, (xt_bits _ hb).1]
  have h1 : 2 * (a ^^^ b) = (2 * a) ^^^ (2 * b) := by
    have := Nat.shiftLeft_xor_distrib (a := a) (b := b) (i := 1)
    simp only [Nat.shiftLeft_eq, Nat.pow_one] at this
    rw [Nat.mul_comm 2, Nat.mul_comm 2, Nat.mul_comm 2]; exact this
  have h2 : (a ^^^ b) / 128 = (a / 128) ^^^ (b / 128) := by
    have := Nat.shiftRight_xor_distrib (a := a) (b := b) (i := 7)
    simp only [Nat.shiftRight_eq_div_pow] at this; simpa using this
  have h3 : 285 * ((a / 128) ^^^ (b / 128)) = (285 * (a / 128)) ^^^ (285 * (b / 128)) := by
    have ha1 : a / 128 < 2 := by omega
    have hb1 : b / 128 < 2 := by omega
    generalize a / 128 = u at *; generalize b / 128 = v at *
    have : u = 0 ∨ u = 1 := by omega
    have : v = 0 ∨ v = 1 := by omega
    rcases ‹u = 0 ∨ u = 1› with rfl | rfl <;> rcases ‹v = 0 ∨ v = 1› with rfl | rfl <;> decide
  rw [h1, h2, h3]
  ac_rfl

theorem pw_add (n : Nat) : pw (n + 255) = pw n := by
  induction n with
  | zero => rw [Nat.zero_add, pw_255]; rfl
  | succ n ih =>
    have h : pw (n + 255 + 1) = xt (pw (n + 255)) := rfl
    rw [show n + 1 + 255 = n + 255 + 1 from by omega, h, ih]; rfl
theorem pw_mod (n : Nat) : pw n = pw (n % 255) := by
  induction n using Nat.strongRecOn with
  | ind n ih =>
    by_cases h : n < 255
    · rw [Nat.mod_eq_of_lt h]
    · obtain ⟨m, rfl⟩ : ∃ m, n = m + 255 := ⟨n - 255, by omega⟩
      rw [pw_add, ih m (by omega), Nat.add_mod_right]
theorem pw_bd (n : Nat) : pw n < 256 ∧ pw n ≠ 0 := by rw [pw_mod]; exact pw_bd0 _ (Nat.mod_lt _ (by omega))
theorem lg_pw' (n : Nat) : lg (pw n) = n % 255 := by rw [pw_mod]; exact lg_pw _ (Nat.mod_lt _ (by omega))
theorem pw_cong {a b : Nat} (h : a % 255 = b % 255) : pw a = pw b := by rw [pw_mod a, pw_mod b, h]

theorem mulN_bd (a b : Nat) : mulN a b < 256 := by unfold mulN; split; omega; exact (pw_bd _).1
theorem mulN_comm (a b : Nat) : mulN a b = mulN b a := by unfold mulN; rw [Nat.add_comm]; simp only [or_comm]
theorem mulN_zero (a : Nat) : mulN a 0 = 0 := by simp [mulN]
theorem zero_mulN (a : Nat) : mulN 0 a = 0 := by simp [mulN]
theorem mulN_pw (m n : Nat) : mulN (pw m) (pw n) = pw (m + n) := by
  unfold mulN; rw [if_neg (by have := (pw_bd m).2; have := (pw_bd n).2; omega), lg_pw', lg_pw']; apply pw_cong; omega
theorem ex_pw {a : Nat} (h : a < 256) (h0 : a ≠ 0) : ∃ n, n < 255 ∧ a = pw n := ⟨lg a, (pw_lg a h h0).1, (pw_lg a h h0).2.symm⟩
theorem mulN_assoc (a b c : Nat) (ha : a < 256) (hb : b < 256) (hc : c < 256) : mulN (mulN a b) c = mulN a (mulN b c) := by
  by_cases a0 : a = 0
  · subst a0; simp [zero_mulN]
  by_cases b0 : b = 0
  · subst b0; simp [zero_mulN, mulN_zero]
  by_cases c0 : c = 0
  · subst c0; simp [mulN_zero]
  obtain ⟨i, _, rfl⟩ := ex_pw ha a0
  obtain ⟨j, _, rfl⟩ := ex_pw hb b0
  obtain ⟨k, _, rfl⟩ := ex_pw hc c0
  simp only [mulN_pw, Nat.add_assoc]
theorem mulN_one (a : Nat) (ha : a < 256) : mulN a 1 = a := by
  by_cases a0 : a = 0
  · subst a0; rfl
  obtain ⟨i, _, rfl⟩ := ex_pw ha a0
  exact mulN_pw i 0
theorem mulN_ne {a b : Nat} (ha : a ≠ 0) (hb : b ≠ 0) : mulN a b ≠ 0 := by unfold mulN; rw [if_neg (by omega)]; exact (pw_bd _).2
theorem mulN_inv (a : Nat) (ha : a < 256) (h0 : a ≠ 0) : mulN a (invN a) = 1 := by
  obtain ⟨i, hi, rfl⟩ := ex_pw ha h0
  unfold invN; rw [lg_pw _ hi, mulN_pw, show i + (255 - i) = 255 from by omega]; exact pw_255
theorem pw_mul (n b : Nat) (hb : b < 256) : mulN (pw (n + 1)) b = xt (mulN (pw n) b) := by
  by_cases b0 : b = 0
  · subst b0; simp [mulN_zero]; rfl
  obtain ⟨j, _, rfl⟩ := ex_pw hb b0
  rw [mulN_pw, mulN_pw, show n + 1 + j = (n + j) + 1 from by omega]; rfl
theorem mulN_pw_xor (n b c : Nat) (hb : b < 256) (hc : c < 256) : mulN (pw n) (b ^^^ c) = mulN (pw n) b ^^^ mulN (pw n) c := by
  have hbc : b ^^^ c < 256 := Nat.xor_lt_two_pow (n := 8) hb hc
  induction n with
  | zero => show mulN 1 _ = mulN 1 _ ^^^ mulN 1 _; rw [mulN_comm, mulN_one _ hbc, mulN_comm 1 b, mulN_one _ hb, mulN_comm 1 c, mulN_one _ hc]
  | succ n ih => rw [pw_mul _ _ hbc, pw_mul _ _ hb, pw_mul _ _ hc, ih, xt_xor _ _ (mulN_bd _ _) (mulN_bd _ _)]
theorem mulN_xor (a b c : Nat) (ha : a < 256) (hb : b < 256) (hc : c < 256) : mulN a (b ^^^ c) = mulN a b ^^^ mulN a c := by
  by_cases a0 : a = 0
  · subst a0; simp [zero_mulN]
  obtain ⟨i, _, rfl⟩ := ex_pw ha a0
  exact mulN_pw_xor i b c hb hc
/-- the elements -/
def GF := Fin 256
namespace GF
instance : DecidableEq GF := inferInstanceAs (DecidableEq (Fin 256))
def mk (n : Nat) (h : n < 256) : GF := Fin.mk n h
def v (a : GF) : Nat := Fin.val a
theorem v_lt (a : GF) : a.v < 256 := Fin.isLt a
theorem v_mk (n : Nat) (h : n < 256) : (mk n h).v = n := rfl
theorem ext {a b : GF} (h : a.v = b.v) : a = b := Fin.ext h
instance : Zero GF := ⟨mk 0 (by omega)⟩
instance : One GF := ⟨mk 1 (by omega)⟩
instance : Add GF := ⟨fun a b => mk (a.v ^^^ b.v) (Nat.xor_lt_two_pow (n := 8) a.v_lt b.v_lt)⟩
instance : Mul GF := ⟨fun a b => mk (mulN a.v b.v) (mulN_bd _ _)⟩
def inv (a : GF) : GF := mk (invN a.v) (pw_bd _).1
/-- a power of the element 2 -/
def al (n : Nat) : GF := mk (pw n) (pw_bd n).1
theorem v_zero : (0 : GF).v = 0 := rfl
theorem v_one : (1 : GF).v = 1 := rfl
theorem v_add (a b : GF) : (a + b).v = a.v ^^^ b.v := rfl
theorem v_mul (a b : GF) : (a * b).v = mulN a.v b.v := rfl
theorem v_al (n : Nat) : (al n).v = pw n := rfl
theorem v_inv (a : GF) : a.inv.v = invN a.v := rfl
theorem add_comm (a b : GF) : a + b = b + a := ext (by simp only [v_add]; ac_rfl)
theorem add_assoc (a b c : GF) : a + b + c = a + (b + c) := ext (by simp only [v_add]; ac_rfl)
theorem add_left_comm (a b c : GF) : a + (b + c) = b + (a + c) := ext (by simp only [v_add]; ac_rfl)
theorem add_zero (a : GF) : a + 0 = a := ext (by simp [v_add, v_zero])
theorem zero_add (a : GF) : 0 + a = a := ext (by simp [v_add, v_zero])
theorem add_self (a : GF) : a + a = 0 := ext (by simp [v_add, v_zero])
theorem mul_comm (a b : GF) : a * b = b * a := ext (mulN_comm _ _)
theorem mul_assoc (a b c : GF) : a * b * c = a * (b * c) := ext (mulN_assoc _ _ _ a.v_lt b.v_lt c.v_lt)
theorem mul_left_comm (a b c : GF) : a * (b * c) = b * (a * c) := by rw [← mul_assoc, mul_comm a b, mul_assoc]
theorem mul_one (a : GF) : a * 1 = a := ext (mulN_one _ a.v_lt)
theorem one_mul (a : GF) : 1 * a = a := by rw [mul_comm, mul_one]
theorem mul_zero (a : GF) : a * 0 = 0 := ext (mulN_zero a.v)
theorem zero_mul (a : GF) : 0 * a = 0 := ext (zero_mulN a.v)
theorem mul_add (a b c : GF) : a * (b + c) = a * b + a * c := ext (mulN_xor _ _ _ a.v_lt b.v_lt c.v_lt)
theorem add_mul (a b c : GF) : (a + b) * c = a * c + b * c := by rw [mul_comm, mul_add, mul_comm c a, mul_comm c b]
instance : Std.Commutative (α := GF) (· + ·) := ⟨add_comm⟩
instance : Std.Associative (α := GF) (· + ·) := ⟨add_assoc⟩
instance : Std.Commutative (α := GF) (· * ·) := ⟨mul_comm⟩
instance : Std.Associative (α := GF) (· * ·) := ⟨mul_assoc⟩
theorem ne_v {a : GF} (h : a ≠ 0) : a.v ≠ 0 := fun e => h (ext e)
theorem mul_ne {a b : GF} (ha : a ≠ 0) (hb : b ≠ 0) : a * b ≠ 0 := fun e => mulN_ne (ne_v ha) (ne_v hb) (by rw [← v_mul, e]; rfl)
theorem mul_inv {a : GF} (h : a ≠ 0) : a * a.inv = 1 := ext (mulN_inv _ a.v_lt (ne_v h))
theorem inv_ne (a : GF) : a.inv ≠ 0 := fun e => (pw_bd (255 - lg a.v)).2 ((v_inv a).symm.trans (congrArg v e))
theorem eq_zero_of_mul {a b : GF} (h : a * b = 0) (ha : a ≠ 0) : b = 0 := by
  by_cases hb : b = 0
  · exact hb
  · exact absurd h (mul_ne ha hb)
theorem add_eq_zero {a b : GF} (h : a + b = 0) : a = b := by
  have : a + b + b = b := by rw [h, zero_add]
  rwa [add_assoc, add_self, add_zero] at this
theorem add_ne {a b : GF} (h : a ≠ b) : a + b ≠ 0 := fun e => h (add_eq_zero e)
theorem one_ne : (1 : GF) ≠ 0 := fun e => by have := congrArg v e; simp [v_zero, v_one] at this
theorem al_ne (n : Nat) : al n ≠ 0 := fun e => (pw_bd n).2 (congrArg v e)
theorem al_add (m n : Nat) : al m * al n = al (m + n) := ext (mulN_pw m n)
theorem al_zero : al 0 = 1 := rfl
theorem al_inj {m n : Nat} (hm : m < 255) (hn : n < 255) (h : al m = al n) : m = n := by
  have h1 : pw m = pw n := congrArg v h
  rw [← lg_pw m hm, ← lg_pw n hn, h1]
theorem eq_inv {a b : GF} (h : a * b = 1) : b = a.inv := by
  by_cases ha : a = 0
  · subst ha; rw [zero_mul] at h; exact absurd h.symm one_ne
  · have : a.inv * (a * b) = a.inv := by rw [h, mul_one]
    rwa [← mul_assoc, mul_comm a.inv, mul_inv ha, one_mul] at this
/-- powers -/
def pow (a : GF) : Nat → GF
  | 0 => 1
  | n + 1 => pow a n * a
end GF
end Go.Proofs.Ytdgjanjoiabgfaa.Rs
