/- What label.times comes to: a product of polynomials below a power. -/
import Derived.Test.YtdgjanjoiabgfaaProg
import Derived.Test.YtdgjanjoiabgfaaRs0
import Derived.Test.YtdgjanjoiabgfaaH0
import Derived.Below
import Derived.Deep.Draws
import Derived.Deep.AppendLies
import Derived.Maps.AppendAt
import Derived.OwnWalk
import Derived.Laws.BytesArg
import Derived.Laws.MakeOwn
import Derived.Laws.OwnMore
import Derived.Deep.OwnRows
import Derived.Tactics
import Derived.Lib.ConvBytes
import Derived.Laws.Slices
import Derived.WalkKit
import Derived.KernelRfl
import Derived.RowKit3
import Derived.Deep.LoopGhost
import Derived.Deep.QuietTactic
import Derived.BigQuiet
import Derived.WideLaws
import Derived.Deep.DeepCutAuto
import Derived.Deep.CutBlock
import Derived.Deep.RegionHeld3
import Derived.Laws.Rows
import Derived.Lib.AppendStr
import Derived.ArgAppend
import Derived.Laws.IdiomCopy
import Derived.OrdersHeld
import Derived.Laws.BitsLemmas
import Derived.RowKit
import Derived.RegionTactic
import Derived.ChangeAlike
import Derived.Deep.RegionWith
import Derived.IntWalk
import Derived.Test.YtdgjanjoiabgfaaWWords
import Derived.Test.YtdgjanjoiabgfaaWLast
import Derived.Test.YtdgjanjoiabgfaaWTab
import Derived.Test.YtdgjanjoiabgfaaWFour
import Derived.Test.YtdgjanjoiabgfaaWQPut
import Derived.Test.YtdgjanjoiabgfaaWApart
import Derived.Test.YtdgjanjoiabgfaaWArr
import Derived.Test.YtdgjanjoiabgfaaWZeros
import Derived.Test.YtdgjanjoiabgfaaWFoot
import Derived.Test.YtdgjanjoiabgfaaWKept
import Derived.Test.YtdgjanjoiabgfaaWShare
import Derived.Test.YtdgjanjoiabgfaaWN
import Derived.Test.YtdgjanjoiabgfaaWFootNe
import Derived.Test.YtdgjanjoiabgfaaWAt
import Derived.Test.YtdgjanjoiabgfaaWEqStruct
import Derived.Test.YtdgjanjoiabgfaaWRepsOne
import Derived.Test.YtdgjanjoiabgfaaWInv
import Derived.Test.YtdgjanjoiabgfaaWInvWords
import Derived.Test.YtdgjanjoiabgfaaWGuard
import Derived.Test.YtdgjanjoiabgfaaWNEv
import Derived.Test.YtdgjanjoiabgfaaWMore
import Derived.Test.YtdgjanjoiabgfaaH1
namespace Go.Proofs.Ytdgjanjoiabgfaa.Hand
open Go.RowKit Go.Proofs.YtdgjanjoiabgfaaW.PrintWords Go.Proofs.YtdgjanjoiabgfaaW.PrintLast Go.Proofs.YtdgjanjoiabgfaaW.PrintMore
open Rs (xt pw_bd lg_pw pw_lg pw_mod)
attribute [local go_sem] max2_int min2_int max_two min_two max_three min_three max_four min_four
set_option linter.unusedVariables false
set_option linter.unusedSimpArgs false
/-! ### times -/
theorem mulN_in {x y : Int} : in8 (Rs.mulN x.toNat y.toNat : Nat) = true := decide_eq_true (by have := Rs.mulN_bd x.toNat y.toNat; omega)
theorem label_mul.some {x y : Int} (hx : in8 x = true) (hy : in8 y = true) : label_mul.f x y = Option.some ((Rs.mulN x.toNat y.toNat : Nat) : Int) := by
  unfold label_mul.f; rw [if_pos hx, if_pos hy]
theorem rd_set {l : List Int} (j : Nat) : rdOf (0 : Int) l (j : Int) = rd l (j : Int) := rfl
set_option maxHeartbeats 1000000 in
set_option maxRecDepth 100000 in
theorem times1_skip (i k : Nat) (lim : Int) (bl bo bp bq : Nat) (w : World) (hi : (i : Int) ≤ 100000) (hk : (k : Int) ≤ 100000) (hL : w.heap[bl]? = some (.cells #[.int .i64 lim] 3 (0, 0))) (h : lim ≤ (i : Int) + k) :
    Calls Try.prog 59 #[.int .i64 i, .int .i64 k, .pointer (some ⟨bl, 0, none⟩), .pointer (some ⟨bo, 0, none⟩), .pointer (some ⟨bp, 0, none⟩), .pointer (some ⟨bq, 0, none⟩)] w fun e w' => e = .returned (.tuple #[]) ∧ Drawn0 w w' := by
  have c1 := cell_of_one hL
  have d : decide ((i : Int) + k < lim) = false := decide_eq_false (by omega)
  clear hL
  go_enter Try.func59, Try.ntmps59
  go_wp2
  go_end0
  exact ⟨rfl, Drawn0.refl _⟩
set_option maxHeartbeats 4000000 in
set_option maxRecDepth 100000 in
theorem times1_does (i k : Nat) (lim x y z m : Int) (bl bo bp bq g n cap lp cp lq cq : Nat) (ap aq : Addr) (w : World) (hi : (i : Int) ≤ 100000) (hk : (k : Int) ≤ 100000)
    (hL : w.heap[bl]? = some (.cells #[.int .i64 lim] 3 (0, 0))) (hO : w.heap[bo]? = some (.cells #[.slice (some ⟨g, 0, none⟩) n cap] 58 (0, 0)))
    (hP : w.heap[bp]? = some (.cells #[.slice (some ap) lp cp] 58 (0, 0))) (hQ : w.heap[bq]? = some (.cells #[.slice (some aq) lq cq] 58 (0, 0)))
    (h : (i : Int) + k < lim) (hn : i + k < n) (hlp : i < lp) (hlq : k < lq) (hx : w.cell? (ap.add i) = some (.int .u8 x)) (hy : w.cell? (aq.add k) = some (.int .u8 y))
    (hz : w.cell? ⟨g, i + k, none⟩ = some (.int .u8 z)) (hf : w.frozen? ⟨g, i + k, none⟩ = false) (hm : label_mul.f x y = some m) :
    Calls Try.prog 59 #[.int .i64 i, .int .i64 k, .pointer (some ⟨bl, 0, none⟩), .pointer (some ⟨bo, 0, none⟩), .pointer (some ⟨bp, 0, none⟩), .pointer (some ⟨bq, 0, none⟩)] w fun e w' =>
      e = .returned (.tuple #[]) ∧ ∃ w1, Below w.heap.size w w1 ∧ w' = w1.setCell ⟨g, i + k, none⟩ (.int .u8 (Go.bits .xor .u8 z m)) := by
  have c1 := cell_of_one hL
  have c2 := cell_of_one hO
  have c3 := cell_of_one hP
  have c4 := cell_of_one hQ
  have d : decide ((i : Int) + k < lim) = true := decide_eq_true h
  have l2 := World.block_lt_of_cell? w _ c2
  have l3 := World.block_lt_of_cell? w _ c3
  have l4 := World.block_lt_of_cell? w _ c4
  have lx := World.block_lt_of_cell? w _ hx
  have ly := World.block_lt_of_cell? w _ hy
  have lz := World.block_lt_of_cell? w _ hz
  have hM := hid hm
  clear hm h hL hO hP hQ
  go_enter Try.func59, Try.ntmps59
  have e0 : (0 : Int) ≤ (i : Int) + k := by omega
  have e1 : (i : Int) + k < (n : Int) := by omega
  have e2 : ((i : Int) + k).toNat = i + k := by omega
  have e3 : IntKind.i64.wrap ((i : Int) + (k : Int)) = (i : Int) + (k : Int) := IntWalk.i64_in _ (by omega)
  have e4 : (i : Int) < lp := by omega
  have e5 : (k : Int) < lq := by omega
  have e6 : (0 : Int) ≤ (i : Int) := by omega
  have e7 : (0 : Int) ≤ (k : Int) := by omega
  go_wp2_with (fail)
  refine start_ (n := 18) (S := fun w' => w'.cell? ⟨bo, 0, none⟩ = some (.slice (some ⟨g, 0, none⟩) n cap) ∧ w'.cell? ⟨bp, 0, none⟩ = some (.slice (some ap) lp cp) ∧ w'.cell? ⟨bq, 0, none⟩ = some (.slice (some aq) lq cq) ∧ w'.cell? (ap.add i) = some (.int .u8 x) ∧ w'.cell? (aq.add k) = some (.int .u8 y) ∧ w'.cell? ⟨g, i + k, none⟩ = some (.int .u8 z)) (ds := [17]) #[false, false, false, false, false, false, false, false, false, false, false, false, false, false, false, false, false, false] (by kernel_rfl) rfl rfl ⟨c2, c3, c4, hx, hy, hz⟩ (fun hHeld => ?_)
  refine pure_ (i := 1) (N := some 14) (v := ?_) (a' := ?_) #[false, true, false, false, false, false, false, false, false, false, false, false, false, false, false, false, false, false] rfl rfl (by kernel_rfl) (fun _ _ _ h => h) (Or.inl ⟨by rfl, ?_⟩) ?_ ?_
  rotate_left
  · intro w'
    go_simp
    with_reducible rfl
  rotate_left
  · simp only [Act.put, List.setIfInBounds_toArray, List.set_cons_zero, List.set_cons_succ, i64_w, i32_w]
    rfl
  refine pure_ (i := 2) (N := some 15) (v := ?_) (a' := ?_) #[false, true, true, false, false, false, false, false, false, false, false, false, false, false, false, false, false, false] rfl rfl (by kernel_rfl) (fun _ _ _ h => h) (Or.inl ⟨by rfl, ?_⟩) ?_ ?_
  rotate_left
  · intro w'
    go_simp
    with_reducible rfl
  rotate_left
  · simp only [Act.put, List.setIfInBounds_toArray, List.set_cons_zero, List.set_cons_succ, i64_w, i32_w]
    rfl
  refine pure_ (i := 3) (N := some 16) (v := ?_) (a' := ?_) #[false, true, true, true, false, false, false, false, false, false, false, false, false, false, false, false, false, false] rfl rfl (by kernel_rfl) (fun _ _ _ h => h) (Or.inl ⟨by rfl, ?_⟩) ?_ ?_
  rotate_left
  · intro w'
    go_simp
    with_reducible rfl
  rotate_left
  · simp only [Act.put, List.setIfInBounds_toArray, List.set_cons_zero, List.set_cons_succ, i64_w, i32_w]
    rfl
  refine pure_ (i := 7) (N := some 20) (v := ?_) (a' := ?_) #[false, true, true, true, false, false, false, true, false, false, false, false, false, false, false, false, false, false] rfl rfl (by kernel_rfl) (fun _ _ _ h => h) (Or.inl ⟨by rfl, ?_⟩) ?_ ?_
  rotate_left
  · intro w'
    go_simp
    with_reducible rfl
  rotate_left
  · simp only [Act.put, List.setIfInBounds_toArray, List.set_cons_zero, List.set_cons_succ, i64_w, i32_w]
    rfl
  refine pure_ (i := 11) (N := some 24) (v := ?_) (a' := ?_) #[false, true, true, true, false, false, false, true, false, false, false, true, false, false, false, false, false, false] rfl rfl (by kernel_rfl) (fun _ _ _ h => h) (Or.inl ⟨by rfl, ?_⟩) ?_ ?_
  rotate_left
  · intro w'
    go_simp
    with_reducible rfl
  rotate_left
  · simp only [Act.put, List.setIfInBounds_toArray, List.set_cons_zero, List.set_cons_succ, i64_w, i32_w]
    rfl
  refine take_ (i := 0) (N := some 13) (v := ?_) (a' := ?_) #[true, true, true, true, false, false, false, true, false, false, false, true, false, false, false, false, false, false] rfl rfl (by kernel_rfl) (fun _ _ _ h => h) (Or.inl ⟨by rfl, ?_⟩) hHeld ?_ ?_
  rotate_left
  · rintro w' ⟨s0, s1, s2, s3, s4, s5⟩
    go_simp
    with_reducible rfl
  rotate_left
  · simp only [Act.put, List.setIfInBounds_toArray, List.set_cons_zero, List.set_cons_succ, i64_w, i32_w]
    rfl
  refine pure_ (i := 4) (N := some 17) (v := ?_) (a' := ?_) #[true, true, true, true, true, false, false, true, false, false, false, true, false, false, false, false, false, false] rfl rfl (by kernel_rfl) (fun _ _ _ h => h) (Or.inl ⟨by rfl, ?_⟩) ?_ ?_
  rotate_left
  · intro w'
    go_simp
    with_reducible rfl
  rotate_left
  · simp only [Act.put, List.setIfInBounds_toArray, List.set_cons_zero, List.set_cons_succ, i64_w, i32_w]
    rfl
  refine take_ (i := 5) (N := some 18) (v := ?_) (a' := ?_) #[true, true, true, true, true, true, false, true, false, false, false, true, false, false, false, false, false, false] rfl rfl (by kernel_rfl) (fun _ _ _ h => h) (Or.inl ⟨by rfl, ?_⟩) hHeld ?_ ?_
  rotate_left
  · rintro w' ⟨s0, s1, s2, s3, s4, s5⟩
    go_simp
    with_reducible rfl
  rotate_left
  · simp only [Act.put, List.setIfInBounds_toArray, List.set_cons_zero, List.set_cons_succ, i64_w, i32_w]
    rfl
  refine take_ (i := 6) (N := some 19) (v := ?_) (a' := ?_) #[true, true, true, true, true, true, true, true, false, false, false, true, false, false, false, false, false, false] rfl rfl (by kernel_rfl) (fun _ _ _ h => h) (Or.inl ⟨by rfl, ?_⟩) hHeld ?_ ?_
  rotate_left
  · rintro w' ⟨s0, s1, s2, s3, s4, s5⟩
    go_simp
    with_reducible rfl
  rotate_left
  · simp only [Act.put, List.setIfInBounds_toArray, List.set_cons_zero, List.set_cons_succ, i64_w, i32_w]
    rfl
  refine pure_ (i := 8) (N := some 21) (v := ?_) (a' := ?_) #[true, true, true, true, true, true, true, true, true, false, false, true, false, false, false, false, false, false] rfl rfl (by kernel_rfl) (fun _ _ _ h => h) (Or.inl ⟨by rfl, ?_⟩) ?_ ?_
  rotate_left
  · intro w'
    go_simp
    with_reducible rfl
  rotate_left
  · simp only [Act.put, List.setIfInBounds_toArray, List.set_cons_zero, List.set_cons_succ, i64_w, i32_w]
    rfl
  refine take_ (i := 9) (N := some 22) (v := ?_) (a' := ?_) #[true, true, true, true, true, true, true, true, true, true, false, true, false, false, false, false, false, false] rfl rfl (by kernel_rfl) (fun _ _ _ h => h) (Or.inl ⟨by rfl, ?_⟩) hHeld ?_ ?_
  rotate_left
  · rintro w' ⟨s0, s1, s2, s3, s4, s5⟩
    go_simp
    with_reducible rfl
  rotate_left
  · simp only [Act.put, List.setIfInBounds_toArray, List.set_cons_zero, List.set_cons_succ, i64_w, i32_w]
    rfl
  refine take_ (i := 10) (N := some 23) (v := ?_) (a' := ?_) #[true, true, true, true, true, true, true, true, true, true, true, true, false, false, false, false, false, false] rfl rfl (by kernel_rfl) (fun _ _ _ h => h) (Or.inl ⟨by rfl, ?_⟩) hHeld ?_ ?_
  rotate_left
  · rintro w' ⟨s0, s1, s2, s3, s4, s5⟩
    go_simp
    with_reducible rfl
  rotate_left
  · simp only [Act.put, List.setIfInBounds_toArray, List.set_cons_zero, List.set_cons_succ, i64_w, i32_w]
    rfl
  refine pure_ (i := 12) (N := some 25) (v := ?_) (a' := ?_) #[true, true, true, true, true, true, true, true, true, true, true, true, true, false, false, false, false, false] rfl rfl (by kernel_rfl) (fun _ _ _ h => h) (Or.inl ⟨by rfl, ?_⟩) ?_ ?_
  rotate_left
  · intro w'
    go_simp
    with_reducible rfl
  rotate_left
  · simp only [Act.put, List.setIfInBounds_toArray, List.set_cons_zero, List.set_cons_succ, i64_w, i32_w]
    rfl
  refine take_ (i := 13) (N := some 26) (v := ?_) (a' := ?_) #[true, true, true, true, true, true, true, true, true, true, true, true, true, true, false, false, false, false] rfl rfl (by kernel_rfl) (fun _ _ _ h => h) (Or.inl ⟨by rfl, ?_⟩) hHeld ?_ ?_
  rotate_left
  · rintro w' ⟨s0, s1, s2, s3, s4, s5⟩
    go_simp
    with_reducible rfl
  rotate_left
  · simp only [Act.put, List.setIfInBounds_toArray, List.set_cons_zero, List.set_cons_succ, i64_w, i32_w]
    rfl
  refine one_ (i := 14) (N := some 27) #[true, true, true, true, true, true, true, true, true, true, true, true, true, true, true, false, false, false] rfl rfl (by kernel_rfl) (by decide) (fun K hK => ?_)
  refine goes_ Try.func36 (by kernel_rfl) rfl #[.int .u8 x, .int .u8 y] (by rfl) rfl rfl (by (try simp only [List.map_toArray, List.map_cons, List.map_nil]); first | done | rfl) ?_
  with_reducible refine (label_mul.calls x y m _ hM.out).mono ?_
  rintro e w1 ⟨rfl, hB⟩
  have B1 := Aside0.mk hB
  clear hB
  have gz := (B1.out.cell (p := ⟨g, i + k, none⟩) (by simpa using lz)).trans hz
  have gf := (B1.out.frozen (p := ⟨g, i + k, none⟩) (by simpa using lz)).trans hf
  refine ⟨_, rfl, ?_⟩
  refine hK.out _ _ ⟨(B1.out.cell (p := ⟨bo, 0, none⟩) (by simpa using l2)).trans c2, (B1.out.cell (p := ⟨bp, 0, none⟩) (by simpa using l3)).trans c3, (B1.out.cell (p := ⟨bq, 0, none⟩) (by simpa using l4)).trans c4, (B1.out.cell (p := ap.add i) (by simpa using lx)).trans hx, (B1.out.cell (p := aq.add k) (by simpa using ly)).trans hy, gz⟩ (fun hHeld => ?_)
  clear hK K
  refine norm_ (a' := ?_) ?_ ?_
  rotate_left
  · show Act.put _ (some 27) _ = _
    simp only [Act.put, List.setIfInBounds_toArray, List.set_cons_zero, List.set_cons_succ, i64_w, i32_w]
    rfl
  refine pure_ (i := 15) (N := some 28) (v := ?_) (a' := ?_) #[true, true, true, true, true, true, true, true, true, true, true, true, true, true, true, true, false, false] rfl rfl (by kernel_rfl) (fun _ _ _ h => h) (Or.inl ⟨by rfl, ?_⟩) ?_ ?_
  rotate_left
  · intro w'
    go_simp
    with_reducible rfl
  rotate_left
  · simp only [Act.put, List.setIfInBounds_toArray, List.set_cons_zero, List.set_cons_succ, i64_w, i32_w]
    rfl
  refine pure_ (i := 16) (N := some 29) (v := ?_) (a' := ?_) #[true, true, true, true, true, true, true, true, true, true, true, true, true, true, true, true, true, false] rfl rfl (by kernel_rfl) (fun _ _ _ h => h) (Or.inl ⟨by rfl, ?_⟩) ?_ ?_
  rotate_left
  · intro w'
    go_simp
    with_reducible rfl
  rotate_left
  · simp only [Act.put, List.setIfInBounds_toArray, List.set_cons_zero, List.set_cons_succ, i64_w, i32_w]
    rfl
  refine last_ (i := 17) (N := none) #[true, true, true, true, true, true, true, true, true, true, true, true, true, true, true, true, true, true] rfl rfl (by kernel_rfl) (by decide) (fun K hK => ?_)
  refine skip_ (w1 := ?_) (by rfl) rfl ?_ ?_
  rotate_left
  · go_simp
    rfl
  refine hK.out _ _ ?_
  clear hK K
  refine done_ (by kernel_rfl) ?_
  try go_wp2
  go_end0
  exact ⟨rfl, _, (Below.refl _ _).drew.trans (B1.out.mono (by simp)), rfl⟩
/-- one coefficient against a polynomial, added from a place on -/
def tin (x : Int) : List Int → Nat → List Int → List Int
  | [], _, out => out
  | y :: q, a, out => tin x q (a + 1) (out.set a (Go.bits .xor .u8 (rd out a) (Rs.mulN x.toNat y.toNat : Nat)))
def tout (q : List Int) : List Int → Nat → List Int → List Int
  | [], _, out => out
  | x :: p, a, out => tout q p (a + 1) (tin x q a out)
def bytesB (l : List Int) : Bool := l.all in8
def label_times.f (l0 l1 : List Int) (a2 : Int) : Option (List Int) :=
  if 0 ≤ a2 ∧ a2 ≤ 100000 ∧ (l0.length : Int) ≤ 100000 ∧ (l1.length : Int) ≤ 100000 ∧ bytesB l0 = true ∧ bytesB l1 = true then some (tout l1 l0 0 (List.replicate a2.toNat 0)) else none
theorem bytesB_rd {l : List Int} (h : bytesB l = true) (i : Nat) (hi : i < l.length) : in8 (rd l i) = true := by
  unfold rd; rw [Int.toNat_natCast, List.getD_eq_getElem?_getD, List.getElem?_eq_getElem hi]
  exact List.all_eq_true.1 h _ (List.getElem_mem hi)
theorem drop_rd {l : List Int} (i : Nat) (hi : i < l.length) : l.drop i = rd l i :: l.drop (i + 1) := by
  unfold rd; rw [Int.toNat_natCast, List.getD_eq_getElem?_getD, List.getElem?_eq_getElem hi, List.drop_eq_getElem_cons hi]; rfl
theorem set_out {l : List Int} (i : Nat) (v : Int) (h : l.length ≤ i) : l.set i v = l := List.set_eq_of_length_le h
theorem tin_length (x : Int) (q : List Int) : ∀ (a : Nat) (out : List Int), (tin x q a out).length = out.length := by
  induction q with
  | nil => intro a out; rfl
  | cons y q ih => intro a out; show (tin x q _ _).length = _; rw [ih, List.length_set]
theorem R_made {w : World} {base g n : Nat} {e : TypeId} (hb : base ≤ g) (h : w.heap[g]? = some (.cells (madeCells #[.int .u8 0] n) e (0, 0))) (hn : n ≤ maxLen) :
    Kd.R (Kd.int .u8) e w base (fun _ => True) (.slice (some ⟨g, 0, none⟩) n n) (List.replicate n 0) := by
  refine Kd.R_of_own (h1 := fun _ => rfl) ?_ (fun _ _ => trivial)
  refine ⟨by simp [encs], .inr ⟨g, n, _, by simp, hb, h, by simp, hn, by rw [size_madeCells, Nat.mul_one], ?_⟩⟩
  apply List.ext_getElem
  · simp [size_madeCells, encs]
  · intro j h1 h2
    simp [madeCells, encs, Nat.mod_one]
/-- the variables that the closure has captured, and the row -/
def Boxes (B : Nat) (A0 : Option Addr) (n0 c0 : Nat) (A1 : Option Addr) (n1 c1 n : Nat) (w : World) : Prop :=
  w.heap[B]? = some (.cells #[.slice A0 n0 c0] 58 (0, 0)) ∧ w.heap[B + 1]? = some (.cells #[.slice A1 n1 c1] 58 (0, 0)) ∧
  w.heap[B + 1 + 1]? = some (.cells #[.int .i64 n] 3 (0, 0)) ∧ w.heap[B + 1 + 1 + 1 + 1]? = some (.cells #[.slice (some ⟨B + 1 + 1 + 1, 0, none⟩) n n] 58 (0, 0))
theorem lt_of_some {α : Type} {a : Array α} {i : Nat} {v : α} (h : a[i]? = some v) : i < a.size := by
  rcases Nat.lt_or_ge i a.size with h' | h'
  · exact h'
  · rw [Array.getElem?_eq_none h'] at h; exact absurd h (by simp)
theorem Boxes.lt {B : Nat} {A0 : Option Addr} {n0 c0 : Nat} {A1 : Option Addr} {n1 c1 n : Nat} {w : World} (h : Boxes B A0 n0 c0 A1 n1 c1 n w) : B < w.heap.size ∧ B + 1 < w.heap.size ∧ B + 1 + 1 < w.heap.size ∧ B + 1 + 1 + 1 + 1 < w.heap.size :=
  ⟨lt_of_some h.1, lt_of_some h.2.1, lt_of_some h.2.2.1, lt_of_some h.2.2.2⟩
theorem heap_old (w : World) (o : Obj) (k : Nat) (h : k < w.heap.size) : (w.alloc o).heap[k]? = w.heap[k]? := Below.heap_alloc w o k h
theorem heap_new (w : World) (o : Obj) (k : Nat) (h : k = w.heap.size) : (w.alloc o).heap[k]? = some o := by
  subst h; show (w.heap.push o)[w.heap.size]? = _; simp
theorem times_boxes (w : World) (A0 : Option Addr) (n0 c0 : Nat) (A1 : Option Addr) (n1 c1 n : Nat) (R : Obj) : Boxes w.heap.size A0 n0 c0 A1 n1 c1 n
    (((((w.alloc (.cells #[.slice A0 n0 c0] 58)).alloc (.cells #[.slice A1 n1 c1] 58)).alloc (.cells #[.int .i64 n] 3)).alloc R).alloc (.cells #[.slice (some ⟨w.heap.size + 1 + 1 + 1, 0, none⟩) n n] 58)) := by
  refine ⟨?_, ?_, ?_, ?_⟩
  · rw [heap_old _ _ _ (by first | (simp; done) | (simp; omega)), heap_old _ _ _ (by first | (simp; done) | (simp; omega)), heap_old _ _ _ (by first | (simp; done) | (simp; omega)), heap_old _ _ _ (by simp), heap_new _ _ _ rfl]
  · rw [heap_old _ _ _ (by first | (simp; done) | (simp; omega)), heap_old _ _ _ (by first | (simp; done) | (simp; omega)), heap_old _ _ _ (by simp), heap_new _ _ _ (by simp)]
  · rw [heap_old _ _ _ (by first | (simp; done) | (simp; omega)), heap_old _ _ _ (by simp), heap_new _ _ _ (by simp)]
  · rw [heap_new _ _ _ (by simp)]
theorem times_row (w : World) (a b c : Obj) (d : Obj) (v : Value) (t : TypeId) : (((((w.alloc a).alloc b).alloc c).alloc d).alloc (.cells #[v] t)).heap[w.heap.size + 1 + 1 + 1]? = some d := by
  rw [heap_old _ _ _ (by simp), heap_new _ _ _ (by simp)]
set_option maxHeartbeats 4000000 in
set_option maxRecDepth 100000 in
theorem times_walk (A0 : Option Addr) (c0 : Nat) (l0 : List Int) (A1 : Option Addr) (c1 : Nat) (l1 : List Int) (n : Nat) (r : List Int) (w : World) (hr0 : Kd.C (Kd.int .u8) w A0 l0.length l0) (hc0 : l0.length ≤ c0) (hr1 : Kd.C (Kd.int .u8) w A1 l1.length l1) (hc1 : l1.length ≤ c1)
    (hn : (n : Int) ≤ 100000) (h0 : (l0.length : Int) ≤ 100000) (h1 : (l1.length : Int) ≤ 100000) (b0 : bytesB l0 = true) (b1 : bytesB l1 = true) (hr : tout l1 l0 0 (List.replicate n 0) = r) :
    Calls Try.prog 53 #[.slice A0 l0.length c0, .slice A1 l1.length c1, .int .i64 n] w fun e w' => ∃ v0_ : Value, e = .returned (v0_) ∧ Kd.R (Kd.int .u8) 5 w' w.heap.size (fun _ => True) v0_ r ∧ Below w.heap.size w w' := by
  have HR0 := Aside0.mk hr0
  have HR1 := Aside0.mk hr1
  have HH := Aside0.mk hr
  have HB0 := Aside0.mk b0
  have HB1 := Aside0.mk b1
  clear hr0 hr1 hr hc0 hc1 b0 b1
  have n0 : (0 : Int) ≤ (n : Int) := by omega
  have hmk := fun w => run_make_row' (P := Try.prog) 58 5 (.int .u8 0) 1 Try.underlying58 Try.infoU8 rfl .i64 .i64 n (by omega) (by omega) w
  go_enter Try.func53, Try.ntmps53
  go_wp2
  clear hmk
  go_loopg [16] l0.length (fun kq v16 w' => ∃ (i : Nat) (l : List Int), v16 = .int .i64 i ∧ i + kq = l0.length ∧ Aside0 (tout l1 (l0.drop i) i l = r) ∧ Aside0 (l.length = n) ∧ Aside0 (Boxes w.heap.size A0 l0.length c0 A1 l1.length c1 n w') ∧ Aside0 (Kd.R (Kd.int .u8) 5 w' w.heap.size (fun _ => True) (.slice (some ⟨w.heap.size + 1 + 1 + 1, 0, none⟩) n n) l) ∧ Aside0 (Below w.heap.size w w'))
  case atStart =>
    refine ⟨0, List.replicate n 0, rfl, by omega, ⟨HH.out⟩, ⟨List.length_replicate⟩, ⟨?_⟩, ⟨?_⟩, ⟨?_⟩⟩
    · exact times_boxes _ _ _ _ _ _ _ _ _
    · exact R_made (by omega) (times_row _ _ _ _ _ _ _) (by unfold maxLen; omega)
    · exact ((((((Below.refl _ _).alloc (Nat.le_refl _) _).alloc (by simp) _).alloc (by first | (simp; done) | (simp; omega)) _).alloc (by first | (simp; done) | (simp; omega)) _).alloc (by first | (simp; done) | (simp; omega)) _)
  case round =>
    obtain ⟨i, l, rfl, hi, HT, HL, HX, HO, HB⟩ := hrel
    by_cases hlt : i < l0.length
    · have d1 : decide ((i : Int) < (l0.length : Int)) = true := decide_eq_true (by omega)
      obtain ⟨x1, x2, x3, x4⟩ := HX.out
      have y1 := cell_of_one x1
      have y2 := cell_of_one x2
      clear x1 x2 x3 x4
      go_wp2
      clear y1 y2
      go_loopg [21] l1.length (fun kq v21 w' => ∃ (k : Nat) (l : List Int), v21 = .int .i64 k ∧ k + kq = l1.length ∧ Aside0 (tout l1 (l0.drop (i + 1)) (i + 1) (tin (rd l0 i) (l1.drop k) (i + k) l) = r) ∧ Aside0 (l.length = n) ∧ Aside0 (Boxes w.heap.size A0 l0.length c0 A1 l1.length c1 n w') ∧ Aside0 (Kd.R (Kd.int .u8) 5 w' w.heap.size (fun _ => True) (.slice (some ⟨w.heap.size + 1 + 1 + 1, 0, none⟩) n n) l) ∧ Aside0 (Below w.heap.size w w'))
      case atStart => exact ⟨0, l, rfl, by omega, ⟨by have := HT.out; rw [drop_rd i hlt] at this; exact this⟩, HL, HX, HO, HB⟩
      case round =>
        clear HT HL HX HO HB
        obtain ⟨k, l, rfl, hk, HT, HL, HX, HO, HB⟩ := hrel
        by_cases hkt : k < l1.length
        · have d2 : decide ((k : Int) < (l1.length : Int)) = true := decide_eq_true (by omega)
          by_cases hin : i + k < n
          · obtain ⟨ax, ex, hx0⟩ := Kd.at_int HR0.out (i : Int) (by omega) (by omega)
            obtain ⟨ay, ey, hy0⟩ := Kd.at_int HR1.out (k : Int) (by omega) (by omega)
            obtain ⟨hz0, hf0⟩ := Kd.R_celln 0 HO.out ((i + k : Nat) : Int) (by omega) (by omega)
            rw [Int.toNat_natCast] at hx0 hy0 hz0 hf0
            have hx := (HB.out.cell (World.block_lt_of_cell? w _ hx0)).trans hx0
            have hy := (HB.out.cell (World.block_lt_of_cell? w _ hy0)).trans hy0
            have HX1 := hid hx
            have HX2 := hid hy
            have HX3 := hid hz0
            have HX4 := hid hf0
            have HX5 := hid ex
            have HX6 := hid ey
            clear hx hy hx0 hy0 hz0 hf0 ex ey
            go_wp2_with (go_at_call 59; refine (times1_does i k n (rd l0 i) (rd l1 k) (rdOf 0 l ((i + k : Nat) : Int)) _ (w.heap.size + 1 + 1) (w.heap.size + 1 + 1 + 1 + 1) w.heap.size (w.heap.size + 1) (w.heap.size + 1 + 1 + 1) n n l0.length c0 l1.length c1 ax ay _ (by omega) (by omega) HX.out.2.2.1 HX.out.2.2.2 (by have := HX.out.1; rw [HX5.out] at this; exact this) (by have := HX.out.2.1; rw [HX6.out] at this; exact this) (by omega) hin hlt hkt HX1.out HX2.out HX3.out HX4.out (label_mul.some (bytesB_rd HB0.out i hlt) (bytesB_rd HB1.out k hkt))).mono ?_; rintro e w2 ⟨rfl, w1, hB, rfl⟩; have B1 := Aside0.mk hB; clear hB)
            go_roundg (l1.length - (k + 1))
            case rel =>
              have e1 : k + (1 : Nat) = k + 1 := rfl
              refine ⟨k + 1, l.set (i + k) (Go.bits .xor .u8 (rd l (i + k : Nat)) (Rs.mulN (rd l0 i).toNat (rd l1 k).toNat : Nat)), by go_num, by omega, ⟨by have := HT.out; rw [drop_rd k hkt] at this; exact this⟩, ⟨by rw [List.length_set]; exact HL.out⟩, ⟨?_⟩, ⟨?_⟩, ⟨?_⟩⟩
              · obtain ⟨x1, x2, x3, x4⟩ := HX.out
                exact ⟨blk_far ((B1.out.block _ (Boxes.lt HX.out).1).trans x1) (by dsimp only; omega) _, blk_far ((B1.out.block _ (Boxes.lt HX.out).2.1).trans x2) (by dsimp only; omega) _, blk_far ((B1.out.block _ (Boxes.lt HX.out).2.2.1).trans x3) (by dsimp only; omega) _, blk_far ((B1.out.block _ (Boxes.lt HX.out).2.2.2).trans x4) (by dsimp only; omega) _⟩
              · have := Kd.R_putn (Kd.R_below HO.out B1.out) ((i + k : Nat) : Int) (Go.bits .xor .u8 (rd l (i + k : Nat)) (Rs.mulN (rd l0 i).toNat (rd l1 k).toNat : Nat))
                rw [Int.toNat_natCast] at this
                exact this
              · exact (HB.out.trans (B1.out.mono HB.out.size)).setCell (by dsimp only; omega) _
            case measure => omega
          · go_wp2_with (go_at_call 59; refine (times1_skip i k n (w.heap.size + 1 + 1) (w.heap.size + 1 + 1 + 1 + 1) w.heap.size (w.heap.size + 1) _ (by omega) (by omega) HX.out.2.2.1 (by omega)).mono ?_; rintro e w2 ⟨rfl, ⟨nd, rfl⟩⟩)
            go_roundg (l1.length - (k + 1))
            case rel => exact ⟨k + 1, l, by go_num, by omega, ⟨by have := HT.out; rw [drop_rd k hkt] at this; unfold tin at this; rw [set_out _ _ (by have := HL.out; omega)] at this; exact this⟩, HL, ⟨HX.out⟩, ⟨Kd.R_drewN HO.out _⟩, ⟨pw_below_drewN HB.out _⟩⟩
            case measure => omega
        · have d2 : decide ((k : Int) < (l1.length : Int)) = false := decide_eq_false (by omega)
          go_wp2
          go_roundg (l0.length - (i + 1))
          case rel => exact ⟨i + 1, l, by go_num, by omega, ⟨by have := HT.out; have e : l1.drop k = [] := List.drop_eq_nil_of_le (by omega); rw [e] at this; exact this⟩, HL, HX, HO, HB⟩
          case measure => omega
    · have d1 : decide ((i : Int) < (l0.length : Int)) = false := decide_eq_false (by omega)
      have y4 := cell_of_one HX.out.2.2.2
      go_wp2
      go_ret
      exact ⟨_, rfl, by have h1 := HT.out; have e : l0.drop i = [] := List.drop_eq_nil_of_le (by omega); rw [e] at h1; exact h1 ▸ HO.out, HB.out⟩
theorem label_times.calls (A0 : Option Addr) (c0 : Nat) (l0 : List Int) (A1 : Option Addr) (c1 : Nat) (l1 : List Int) (a2 : Int) (r : List Int) (w : World) (hr0 : Kd.C (Kd.int .u8) w A0 l0.length l0) (hc0 : l0.length ≤ c0) (hr1 : Kd.C (Kd.int .u8) w A1 l1.length l1) (hc1 : l1.length ≤ c1) (h : label_times.f l0 l1 a2 = some r) :
    Calls Try.prog 53 #[.slice A0 l0.length c0, .slice A1 l1.length c1, .int .i64 a2] w fun e w' => ∃ v0_ : Value, e = .returned (v0_) ∧ Kd.R (Kd.int .u8) 5 w' w.heap.size (fun _ => True) v0_ r ∧ Below w.heap.size w w' := by
  unfold label_times.f at h
  by_cases hc : 0 ≤ a2 ∧ a2 ≤ 100000 ∧ (l0.length : Int) ≤ 100000 ∧ (l1.length : Int) ≤ 100000 ∧ bytesB l0 = true ∧ bytesB l1 = true
  · rw [if_pos hc] at h
    obtain rfl := Option.some.inj h
    obtain ⟨h0, h1, h2, h3, h4, h5⟩ := hc
    obtain ⟨n, rfl⟩ := Int.eq_ofNat_of_zero_le h0
    exact times_walk A0 c0 l0 A1 c1 l1 n _ w hr0 hc0 hr1 hc1 h1 h2 h3 h4 h5 rfl
  · rw [if_neg hc] at h; exact absurd h (by simp)
end Go.Proofs.Ytdgjanjoiabgfaa.Hand
