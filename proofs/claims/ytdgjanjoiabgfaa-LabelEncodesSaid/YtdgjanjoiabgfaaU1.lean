/- Rows of field elements as series: what the field's functions do to them. -/
import Derived.Test.YtdgjanjoiabgfaaU0
import Derived.Test.YtdgjanjoiabgfaaRs2
namespace Go.Proofs.Ytdgjanjoiabgfaa.Pure
open Go.RowKit Go.Proofs.Ytdgjanjoiabgfaa.Q Go.Proofs.YtdgjanjoiabgfaaW.PrintWords Go.Proofs.YtdgjanjoiabgfaaW.PrintLast Go.Proofs.YtdgjanjoiabgfaaW.PrintMore
set_option linter.unusedVariables false
set_option linter.unusedSimpArgs false
open Rs (PS GF hv gen gen_zero gen_deg nx en cut wd cv cv_congr cv_comm cv_zero_left cv_add_left cv_smul_left st sh tl loc als cnt)
open Rs.GF (al)
/-! ### rows of field elements -/
def tb (n : Nat) (f : PS) : List Int := (List.range n).map fun j => (((f j).v : Nat) : Int)
theorem tb_length (n : Nat) (f : PS) : (tb n f).length = n := by simp [tb]
theorem tb_get (n : Nat) (f : PS) (i : Nat) : (tb n f)[i]? = if i < n then some (((f i).v : Nat) : Int) else none := by
  unfold tb
  rw [List.getElem?_map]
  by_cases h : i < n
  · rw [if_pos h, List.getElem?_range h]; rfl
  · rw [if_neg h, List.getElem?_eq_none (by simp; omega)]; rfl
theorem tb_rd (n : Nat) (f : PS) (i : Nat) (h : i < n) : rd (tb n f) (i : Int) = (((f i).v : Nat) : Int) := by
  unfold rd; rw [Int.toNat_natCast, List.getD_eq_getElem?_getD, tb_get, if_pos h]; rfl
theorem tb_congr {n : Nat} {f g : PS} (h : ∀ j, j < n → f j = g j) : tb n f = tb n g := by
  unfold tb; exact List.map_congr_left fun j hj => by rw [h j (List.mem_range.1 hj)]
theorem tb_inj {n : Nat} {f g : PS} (h : tb n f = tb n g) (j : Nat) (hj : j < n) : f j = g j := by
  have := congrArg (fun l => l[j]?) h
  simp only [tb_get, if_pos hj, Option.some.injEq] at this
  exact Rs.GF.ext (by omega)
theorem tb_ext {n : Nat} {f : PS} {l : List Int} (hl : l.length = n) (h : ∀ j, j < n → l[j]? = some (((f j).v : Nat) : Int)) : l = tb n f := by
  apply List.ext_getElem?
  intro j
  rw [tb_get]
  split
  · rename_i hj; exact h j hj
  · exact List.getElem?_eq_none (by omega)
theorem tb_set (n : Nat) (f : PS) (i : Nat) (x : GF) : (tb n f).set i ((x.v : Nat) : Int) = tb n (fun j => if j = i then x else f j) := by
  refine tb_ext (by rw [List.length_set, tb_length]) fun j hj => ?_
  rw [List.getElem?_set, tb_get, tb_length]
  by_cases e : i = j
  · subst e; rw [if_pos rfl, if_pos hj, if_pos rfl]
  · rw [if_neg e, if_pos hj, if_neg (fun h => e h.symm)]
theorem tb_zero (n : Nat) : List.replicate n (0 : Int) = tb n (fun _ => 0) :=
  tb_ext (by simp) fun j hj => by rw [List.getElem?_replicate, if_pos hj]; rfl
theorem tb_succ (n : Nat) (f : PS) : tb (n + 1) f = ((f 0).v : Int) :: tb n (tl f) := by
  symm
  refine tb_ext (by simp [tb_length]) fun j hj => ?_
  cases j with
  | zero => rfl
  | succ j => rw [List.getElem?_cons_succ, tb_get, if_pos (by omega)]; rfl
theorem tb_snoc (n : Nat) (f : PS) : tb n f ++ [((f n).v : Int)] = tb (n + 1) f :=
  tb_ext (by simp [tb_length]) fun j hj => by
    by_cases h : j < n
    · rw [List.getElem?_append_left (by rw [tb_length]; exact h), tb_get, if_pos h]
    · obtain rfl : j = n := by omega
      rw [List.getElem?_append_right (by rw [tb_length]; omega), tb_length, Nat.sub_self]; rfl
theorem tb_append (n p : Nat) (f g : PS) : tb n f ++ tb p g = tb (n + p) (fun j => if j < n then f j else g (j - n)) :=
  tb_ext (by simp [tb_length]) fun j hj => by
    by_cases h : j < n
    · rw [List.getElem?_append_left (by rw [tb_length]; exact h), tb_get, if_pos h, if_pos h]
    · rw [List.getElem?_append_right (by rw [tb_length]; omega), tb_length, tb_get, if_pos (by omega), if_neg h]
theorem tb_drop (n p : Nat) (f : PS) : (tb (n + p) f).drop n = tb p (fun j => f (n + j)) :=
  tb_ext (by simp [tb_length]) fun j hj => by rw [List.getElem?_drop, tb_get, if_pos (by omega)]
theorem tb_take (n p : Nat) (f : PS) (h : n ≤ p) : (tb p f).take n = tb n f :=
  tb_ext (by simp [tb_length]; omega) fun j hj => by rw [List.getElem?_take, if_pos hj, tb_get, if_pos (by omega)]
theorem in8G (a : GF) : Hand.in8 ((a.v : Nat) : Int) = true := in8_of a.v_lt
theorem tb_bytes (n : Nat) (f : PS) : Hand.bytesB (tb n f) = true := List.all_eq_true.2 fun x hx => by
  obtain ⟨j, _, rfl⟩ := List.mem_map.1 hx
  exact in8G _
theorem tb_of {l : List Int} (h : Hand.bytesB l = true) : ∃ f, l = tb l.length f := by
  have hb : ∀ j, ∀ h' : j < l.length, Hand.in8 l[j] = true := fun j h' => List.all_eq_true.1 h _ (List.getElem_mem h')
  refine ⟨fun j => if h' : j < l.length then Rs.GF.mk l[j].toNat (by have := of_decide_eq_true (hb j h'); omega) else 0, tb_ext rfl fun j hj => ?_⟩
  rw [List.getElem?_eq_getElem hj, dif_pos hj]
  have := of_decide_eq_true (hb j hj)
  rw [Rs.GF.v_mk]
  congr 1; omega
/-! strings -/
theorem str_bytes (s : ByteArray) : strOfNums (bytesOf s) = s := by
  show ByteArray.mk _ = s
  have e : ((bytesOf s).map fun n => UInt8.ofNat n.toNat) = s.data.toList := by
    unfold bytesOf
    rw [List.map_map]
    conv => rhs; rw [← List.map_id s.data.toList]
    exact List.map_congr_left fun b _ => by simp
  rw [e]
theorem bytes_str {l : List Int} (h : Hand.bytesB l = true) : bytesOf (strOfNums l) = l := by
  show List.map _ (List.map _ l) = l
  rw [List.map_map]
  conv => rhs; rw [← List.map_id l]
  refine List.map_congr_left fun x hx => ?_
  have := of_decide_eq_true (List.all_eq_true.1 h x hx)
  show ((UInt8.ofNat x.toNat).toNat : Int) = x
  rw [UInt8.toNat_ofNat']; omega
theorem str_append (a b : List Int) : strOfNums (a ++ b) = strOfNums a ++ strOfNums b := by
  show ByteArray.mk _ = _
  apply ByteArray.ext
  rw [ByteArray.data_append]
  show (List.map _ (a ++ b)).toArray = (List.map _ a).toArray ++ (List.map _ b).toArray
  rw [List.map_append]; simp
theorem str_size (n : Nat) (f : PS) : (strOfNums (tb n f)).size = n := by rw [Hand.strOfNums_size, tb_length]
theorem str_of (s : ByteArray) : ∃ f, s = strOfNums (tb s.size f) := by
  obtain ⟨f, hf⟩ := tb_of (Hand.bytesB_bytesOf s)
  exact ⟨f, by rw [show s.size = (bytesOf s).length from (bytesOf_length s).symm, ← hf, str_bytes]⟩
theorem bytes_tb (n : Nat) (f : PS) : bytesOf (strOfNums (tb n f)) = tb n f := bytes_str (tb_bytes n f)
theorem bt_rd (s : ByteArray) (i : Int) : bt s i = rd (bytesOf s) i := by
  unfold bt rd bytesOf
  rw [List.getD_eq_getElem?_getD, List.getElem?_map]
  split
  · rename_i h
    rw [List.getElem?_eq_getElem (by exact h)]; rfl
  · rename_i h
    rw [List.getElem?_eq_none (by simpa using h)]; rfl
theorem bt_tb (n : Nat) (f : PS) (i : Nat) (h : i < n) : bt (strOfNums (tb n f)) (i : Int) = (((f i).v : Nat) : Int) := by rw [bt_rd, bytes_tb, tb_rd n f i h]
theorem str_inj {n : Nat} {f g : PS} (h : strOfNums (tb n f) = strOfNums (tb n g)) : tb n f = tb n g := by rw [← bytes_tb n f, h, bytes_tb]
theorem toList_inj {a b : ByteArray} (h : a.toList = b.toList) : a = b := by
  rw [Go.ByteArray.toList_eq, Go.ByteArray.toList_eq] at h
  exact ByteArray.ext (Array.toList_inj.1 h)
/-! field words -/
theorem xor8G (a b : GF) : Go.bits .xor .u8 ((a.v : Nat) : Int) ((b.v : Nat) : Int) = (((a + b).v : Nat) : Int) := Hand.xor8 _ _ a.v_lt b.v_lt
theorem xor64G (a b : GF) : Go.bits .xor .i64 ((a.v : Nat) : Int) ((b.v : Nat) : Int) = (((a + b).v : Nat) : Int) := Hand.xor64 _ _ (by have := a.v_lt; omega) (by have := b.v_lt; omega)
theorem mulG (a b : GF) : Hand.label_mul.f ((a.v : Nat) : Int) ((b.v : Nat) : Int) = some (((a * b).v : Nat) : Int) := mulT a.v_lt b.v_lt
theorem refMulG (a b : GF) : Ev (fun k => silversideref03_Mul.f k ((a.v : Nat) : Int) ((b.v : Nat) : Int)) (((a * b).v : Nat) : Int) := refMulE a.v_lt b.v_lt
theorem expG (i : Nat) (h : i ≤ 100000) : Hand.label_exp.f (i : Int) = some (((al i).v : Nat) : Int) := by
  unfold Hand.label_exp.f
  rw [if_pos (by omega), show ((i : Int) % 255).toNat = i % 255 from by omega, ← Rs.pw_mod]; rfl
theorem invG {a : GF} (h : a ≠ 0) : Hand.label_inv.f ((a.v : Nat) : Int) = some (((a.inv).v : Nat) : Int) := invT a.v_lt
theorem wv (a : GF) : wrap64 ((a.v : Nat) : Int) = ((a.v : Nat) : Int) := w64 (by omega) (by have := a.v_lt; omega)
/-! ### products -/
theorem tl_cut (n : Nat) (f : PS) : tl (cut (n + 1) f) = cut n (tl f) := by
  funext j; show (if j + 1 < n + 1 then f (j + 1) else 0) = if j < n then f (j + 1) else 0
  simp only [Nat.add_lt_add_iff_right]
theorem cut_zero (f : PS) : cut 0 f = fun _ => 0 := by funext j; unfold cut; rw [if_neg (by omega)]
theorem tin_tb (x : GF) (m : Nat) (n : Nat) : ∀ (q : PS) (a : Nat) (out : PS), Hand.tin ((x.v : Nat) : Int) (tb m q) a (tb n out) = tb n (fun j => out j + (if a ≤ j then x * cut m q (j - a) else 0)) := by
  induction m with
  | zero =>
    intro q a out
    show tb n out = _
    refine tb_congr fun j _ => ?_
    rw [cut_zero]
    split
    · rw [Rs.GF.mul_zero, Rs.GF.add_zero]
    · rw [Rs.GF.add_zero]
  | succ m ih =>
    intro q a out
    rw [tb_succ]
    show Hand.tin _ (tb m (tl q)) (a + 1) ((tb n out).set a (Go.bits .xor .u8 (rd (tb n out) a) (Rs.mulN (x.v : Int).toNat ((q 0).v : Int).toNat : Nat))) = _
    by_cases han : a < n
    · rw [tb_rd n out a han, Int.toNat_natCast, Int.toNat_natCast, ← Rs.GF.v_mul, xor8G, tb_set, ih]
      refine tb_congr fun j _ => ?_
      by_cases e : j = a
      · subst e
        rw [if_pos rfl, if_neg (by omega), if_pos (Nat.le_refl _), Nat.sub_self, Rs.GF.add_zero]
        unfold cut; rw [if_pos (by omega)]
      · rw [if_neg e]
        by_cases h : a ≤ j
        · obtain ⟨t, rfl⟩ : ∃ t, j = a + 1 + t := ⟨j - a - 1, by omega⟩
          rw [if_pos (by omega), if_pos h, Nat.add_sub_cancel_left, show a + 1 + t - a = t + 1 from by omega, ← tl_cut]; rfl
        · rw [if_neg (by omega), if_neg h]
    · rw [List.set_eq_of_length_le (by rw [tb_length]; omega), ih]
      refine tb_congr fun j hj => ?_
      rw [if_neg (by omega), if_neg (by omega)]
theorem tout_tb (m n : Nat) (q : PS) (k : Nat) : ∀ (p : PS) (a : Nat) (out : PS), Hand.tout (tb m q) (tb k p) a (tb n out) = tb n (fun j => out j + (if a ≤ j then cv (j - a) (cut k p) (cut m q) else 0)) := by
  induction k with
  | zero =>
    intro p a out
    show tb n out = _
    refine tb_congr fun j _ => ?_
    rw [cut_zero]
    split
    · rw [cv_zero_left, Rs.GF.add_zero]
    · rw [Rs.GF.add_zero]
  | succ k ih =>
    intro p a out
    rw [tb_succ]
    show Hand.tout (tb m q) (tb k (tl p)) (a + 1) (Hand.tin _ (tb m q) a (tb n out)) = _
    rw [tin_tb, ih]
    refine tb_congr fun j _ => ?_
    by_cases h : a ≤ j
    · rw [if_pos h, if_pos h]
      by_cases e : j = a
      · subst e
        rw [if_neg (by omega), Rs.GF.add_zero, Nat.sub_self]; rfl
      · obtain ⟨t, rfl⟩ : ∃ t, j = a + 1 + t := ⟨j - a - 1, by omega⟩
        rw [if_pos (by omega), show a + 1 + t - a = t + 1 from by omega, show a + 1 + t - (a + 1) = t from by omega, Rs.GF.add_assoc, ← tl_cut]; rfl
    · rw [if_neg h, if_neg h, if_neg (by omega), Rs.GF.add_zero]
theorem timesG (k m n : Nat) (p q : PS) (hk : k ≤ 100000) (hm : m ≤ 100000) (hn : n ≤ 100000) : Hand.label_times.f (tb k p) (tb m q) (n : Int) = some (tb n (fun j => cv j (cut k p) (cut m q))) := by
  unfold Hand.label_times.f
  rw [if_pos ⟨by omega, by omega, by rw [tb_length]; omega, by rw [tb_length]; omega, tb_bytes _ _, tb_bytes _ _⟩, Int.toNat_natCast, tb_zero, tout_tb]
  congr 1
  refine tb_congr fun j _ => ?_
  rw [if_pos (Nat.zero_le _), Nat.sub_zero, Rs.GF.zero_add]
end Go.Proofs.Ytdgjanjoiabgfaa.Pure
