/- What fit and mod hand back. -/
import Derived.Test.YtdgjanjoiabgfaaQ7
import Derived.Test.YtdgjanjoiabgfaaQ17
import Derived.Test.YtdgjanjoiabgfaaQ16
import Derived.Test.YtdgjanjoiabgfaaU
namespace Go.Proofs.Ytdgjanjoiabgfaa.Pure
open Go.RowKit Go.Proofs.Ytdgjanjoiabgfaa.Q Go.Proofs.YtdgjanjoiabgfaaW.PrintWords Go.Proofs.YtdgjanjoiabgfaaW.PrintLast Go.Proofs.YtdgjanjoiabgfaaW.PrintMore
set_option linter.unusedVariables false
set_option linter.unusedSimpArgs false
open Rs (PS GF hv wd cnt)
/-! ### fit and mod -/
theorem modG (a : Int) (b : Nat) (hb : 0 < b) (hb' : b ≤ 100000) : ∃ r : Nat, silversidelaw03_mod.f a (b : Int) = some (r : Int) ∧ r < b := by
  unfold silversidelaw03_mod.f
  have e1 : IntKind.u64.wrap (b : Int) = b := by rw [IntKind.wrap_u64]; omega
  have e2 : 0 ≤ IntKind.u64.wrap a := by rw [IntKind.wrap_u64]; omega
  rw [e1, if_neg (by omega), Int.tmod_eq_emod_of_nonneg e2]
  generalize IntKind.u64.wrap a = x at *
  have h1 : 0 ≤ x % (b : Int) := Int.emod_nonneg _ (by omega)
  have h2 : x % (b : Int) < b := Int.emod_lt_of_pos _ (by omega)
  refine ⟨(x % (b : Int)).toNat, ?_, by omega⟩
  rw [w64 (by omega) (by omega)]
  congr 1; omega
theorem toList_nil {s : ByteArray} : s.toList = ([] : List UInt8) ↔ s.size = 0 := by
  rw [Go.ByteArray.toList_eq]
  show s.data.toList = [] ↔ s.data.size = 0
  rw [Array.toList_eq_nil_iff, Array.size_eq_zero_iff]
theorem cut_str (s : ByteArray) (n : Nat) (h : n ≤ s.size) : ∃ f, s.extract 0 n = strOfNums (tb n f) := by
  obtain ⟨f, hf⟩ := str_of (s.extract 0 n)
  have e : (s.extract 0 n).size = n := by rw [ByteArray.size_extract]; omega
  rw [e] at hf
  exact ⟨f, hf⟩
theorem fit_tail (s : ByteArray) (q most : Nat) (hq : q ≤ 64) (hm : 0 < most) (hm' : most ≤ 200) : ∃ n f, 0 < n ∧ n ≤ most ∧ n + q ≤ 255 ∧
    (if s.toList = ([] : List UInt8) then (if 0 ≤ (mn 1 (mn (most : Int) (wrap64 (255 - (q : Int))))) then (if (mn 1 (mn (most : Int) (wrap64 (255 - (q : Int))))) ≤ 1 then (some ((⟨#[120]⟩ : ByteArray).extract 0 ((mn 1 (mn (most : Int) (wrap64 (255 - (q : Int))))) : Int).toNat, (q : Int))) else (none)) else (none)) else (if 0 ≤ (mn (s.size : Int) (mn (most : Int) (wrap64 (255 - (q : Int))))) then (if (mn (s.size : Int) (mn (most : Int) (wrap64 (255 - (q : Int))))) ≤ (s.size : Int) then (some (s.extract 0 ((mn (s.size : Int) (mn (most : Int) (wrap64 (255 - (q : Int))))) : Int).toNat, (q : Int))) else (none)) else (none))) = some (strOfNums (tb n f), (q : Int)) := by
  rw [w64 (by omega) (by omega)]
  obtain ⟨b, hb, b1, b2, b3⟩ : ∃ b : Nat, mn (most : Int) (255 - (q : Int)) = b ∧ 0 < b ∧ b ≤ most ∧ b + q ≤ 255 := by
    unfold mn
    split
    · exact ⟨255 - q, by omega, by omega, by omega, by omega⟩
    · exact ⟨most, rfl, by omega, by omega, by omega⟩
  rw [hb]
  by_cases h : s.toList = []
  · rw [if_pos h]
    have e : mn 1 (b : Int) = 1 := by unfold mn; rw [if_neg (by omega)]
    rw [e, if_pos (by omega), if_pos (by omega)]
    obtain ⟨f, hf⟩ := cut_str ⟨#[120]⟩ 1 (Nat.le_refl _)
    exact ⟨1, f, by omega, by omega, by omega, by rw [← hf]; rfl⟩
  · rw [if_neg h]
    have hs : s.size ≠ 0 := fun e => h (toList_nil.2 e)
    obtain ⟨n, hn, n1, n2, n3⟩ : ∃ n : Nat, mn (s.size : Int) (b : Int) = n ∧ 0 < n ∧ n ≤ s.size ∧ n ≤ b := by
      unfold mn
      split
      · exact ⟨b, rfl, by omega, by omega, by omega⟩
      · exact ⟨s.size, rfl, by omega, by omega, by omega⟩
    rw [hn, if_pos (by omega), if_pos (by omega), Int.toNat_natCast]
    obtain ⟨f, hf⟩ := cut_str s n n2
    exact ⟨n, f, n1, by omega, by omega, by rw [hf]⟩
theorem fitG (s : ByteArray) (p : Int) (most : Nat) (hm : 0 < most) (hm' : most ≤ 200) : ∃ n q f, 0 < n ∧ n ≤ most ∧ n + q ≤ 255 ∧ q ≤ 64 ∧ Ev (fun k => silversidelaw03_fit.f k s p (most : Int)) (strOfNums (tb n f), (q : Int)) := by
  unfold silversidelaw03_fit.f
  by_cases h : p < 0 ∨ p > 64
  · obtain ⟨q, hq, hq'⟩ := modG p 65 (by omega) (by omega)
    obtain ⟨n, f, h1, h2, h3, h4⟩ := fit_tail s q most (by omega) hm hm'
    refine ⟨n, q, f, h1, h2, h3, by omega, ?_⟩
    have e : Ev (fun k => silversidelaw03_fit.j0 k s p (most : Int) true) (strOfNums (tb n f), (q : Int)) := by
      refine Ev.step (f := fun k => _) (fun k => by rw [silversidelaw03_fit.j0]) ?_
      refine Ev.pos rfl (Ev.bind' hq ?_)
      exact ⟨0, fun _ _ => h4⟩
    by_cases h0 : p < 0
    · exact Ev.pos h0 e
    · rw [decide_eq_true (show p > 64 by omega)]; exact Ev.neg h0 e
  · obtain ⟨q, rfl⟩ := Int.eq_ofNat_of_zero_le (show 0 ≤ p by omega)
    obtain ⟨n, f, h1, h2, h3, h4⟩ := fit_tail s q most (by omega) hm hm'
    refine ⟨n, q, f, h1, h2, h3, by omega, ?_⟩
    rw [decide_eq_false (show ¬ (q : Int) > 64 by omega)]
    refine Ev.neg (by omega) ?_
    refine Ev.step (f := fun k => _) (fun k => by rw [silversidelaw03_fit.j0]) ?_
    exact Ev.neg (by simp) ⟨0, fun _ _ => h4⟩
theorem cnt_snoc (n : Nat) (f : PS) : cnt (n + 1) f = cnt n f + (if f n = 0 then 0 else 1) := by
  rw [Rs.cnt_split 1 n f]; rfl
theorem MulG (a b : GF) : label_Mul.f ((a.v : Nat) : Int) ((b.v : Nat) : Int) = some (((a * b).v : Nat) : Int) := MulT a.v_lt b.v_lt
theorem of_u8 {a : Int} (h : (Lit.int .u8 a).wf = true) : ∃ x : GF, a = ((x.v : Nat) : Int) := by
  obtain ⟨n, rfl, hn⟩ := nat_of_u8 h
  exact ⟨Rs.GF.mk n hn, rfl⟩
end Go.Proofs.Ytdgjanjoiabgfaa.Pure
