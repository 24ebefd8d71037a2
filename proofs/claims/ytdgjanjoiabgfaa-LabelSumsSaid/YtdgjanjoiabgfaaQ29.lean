-- written by a program of this session's (wip/hook.py: the kit's print, with functions proved by hand)
import Derived.Test.YtdgjanjoiabgfaaQ0
import Derived.Test.YtdgjanjoiabgfaaQ2
import Derived.Test.YtdgjanjoiabgfaaQ4
import Derived.Test.YtdgjanjoiabgfaaQ7
namespace Go.Proofs.Ytdgjanjoiabgfaa.Q
open Go.RowKit Go.Proofs.YtdgjanjoiabgfaaW.PrintWords Go.Proofs.YtdgjanjoiabgfaaW.PrintLast Go.Proofs.Ytdgjanjoiabgfaa.Hand Go.Proofs.YtdgjanjoiabgfaaW.PrintMore
attribute [local go_sem] max2_int min2_int max_two min_two max_three min_three max_four min_four   -- for this text's walks alone
set_option linter.unusedVariables false
set_option linter.unusedSimpArgs false

/-! ### label_Syndromes: function 31, by hand -/
def label_Syndromes.f (k : Nat) (a0 : ByteArray) (a1 : Int) : Option (List Int × Int) :=
  if a0.size ≤ 100000 then (label_isParameters.f (a0.size : Int) a1).bind fun t => if t = true then (label_syndromes.f k (bytesOf a0) a1).bind fun r => some (r, 0) else some ([], 2) else none
theorem label_Syndromes.mono : ∀ a0 a1 k, LeO (label_Syndromes.f k a0 a1) (label_Syndromes.f (k + 1) a0 a1) := by
  intro a0 a1 k
  unfold label_Syndromes.f
  repeat' first
      | (with_reducible exact label_syndromes.mono _ _ _)
      | (with_reducible exact LeO.refl _)
      | (with_reducible refine LeO.ite ?_ ?_)
      | (with_reducible refine LeO.bind ?_ (fun _ => ?_))
set_option maxHeartbeats 2000000 in
set_option maxRecDepth 100000 in
theorem label_Syndromes.calls (k : Nat) (a0 : ByteArray) (a1 : Int) (r1 : List Int) (r2 : Int) (w : World) (h : label_Syndromes.f k a0 a1 = some (r1, r2)) :
    Calls Try.prog 31 #[.string a0, .int .i64 a1] w fun e w' => ∃ v0_ : Value, e = .returned (.tuple #[v0_, .int .i64 r2]) ∧ Kd.R (Kd.int .u8) 5 w' w.heap.size (fun _ => True) v0_ r1 ∧ Below w.heap.size w w' := by
  unfold label_Syndromes.f at h
  by_cases hs : a0.size ≤ 100000
  · rw [if_pos hs] at h
    obtain ⟨t, ht, h⟩ := Option.bind_eq_some_iff.mp h
    have HT := hid ht
    clear ht
    have hs1 : (a0.size : Int) ≤ 100000 := by omega
    cases t with
    | false =>
      rw [if_neg (by simp)] at h
      cases h
      go_enter Try.func31, Try.ntmps31
      go_wp2_with (go_at_call 34; refine (label_isParameters.calls _ _ false _ HT.out).mono ?_; rintro e w1 ⟨rfl, ⟨nd, rfl⟩⟩)
      go_ret2
      exact ⟨_, rfl, Kd.R_nil _ _ _ _ _, pw_below_drewN (Below.refl _ _) _⟩
    | true =>
      rw [if_pos rfl] at h
      obtain ⟨r, hr, h⟩ := Option.bind_eq_some_iff.mp h
      cases h
      have HR := hid hr
      clear hr
      have kb := fun W => print_bytes (P := Try.prog) 9 58 5 Try.underlying9 Try.underlying58 Try.underlying5 a0 W
      have HSZ := hid hs
      have hbl := hid (bytesOf_length a0)
      clear hs
      go_enter Try.func31, Try.ntmps31
      go_wp2_with (first
        | (go_at_call 34; refine (label_isParameters.calls _ _ true _ HT.out).mono ?_; rintro e w1 ⟨rfl, ⟨nd, rfl⟩⟩)
        | (go_at_call 40; refine (syndromes_at k _ _ _ _ a1 r1 _ hbl.out (bytes_C _ a0 HSZ.out) (grownCap_ge _ _ _ _) HR.out).mono ?_; rintro e w1 ⟨v, rfl, ho, hb⟩; have HO := Aside0.mk ho; have HB := Aside0.mk hb; clear ho hb))
      go_ret2
      refine ⟨_, rfl, Kd.R_lower HO.out ?_, ?_⟩
      · rw [bytes_size]; simp [World.drewN]
      · exact ((bytes_below (pw_below_drewN (Below.refl _ _) nd) (by simp [World.drewN]) _ _)).trans (HB.out.mono (by rw [bytes_size]; simp [World.drewN]))
  · rw [if_neg hs] at h; exact absurd h (by simp)

end Go.Proofs.Ytdgjanjoiabgfaa.Q
