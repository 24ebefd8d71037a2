/- A part of the proof: what the law's row needs. -/
import Derived.Test.YtiioklboaookiaaGreatDoorProg
import Derived.Below
import Derived.Deep.Draws
import Derived.OwnWalk
import Derived.Tactics
import Derived.WalkKit
import Derived.KernelRfl
import Derived.RowKit3
import Derived.Deep.LoopGhost
import Derived.Deep.QuietTactic
import Derived.BigQuiet
import Derived.WideLaws
import Derived.Laws.BitsLemmas
import Derived.RowKit
import Derived.RegionTactic
import Derived.ChangeAlike
import Derived.Deep.RegionWith
import Derived.IntWalk
import Derived.Deep.AppendLies
import Derived.Maps.AppendAt
import Derived.Laws.BytesArg
import Derived.Laws.MakeOwn
import Derived.Laws.OwnMore
import Derived.Deep.OwnRows
import Derived.Lib.ConvBytes
import Derived.Laws.Slices
import Derived.Deep.DeepCutAuto
import Derived.Deep.CutBlock
import Derived.Deep.RegionHeld3
import Derived.Laws.Rows
import Derived.Lib.AppendStr
import Derived.ArgAppend
import Derived.Laws.IdiomCopy
import Derived.OrdersHeld
import Derived.Lib.BufferWrite
import Derived.Laws.CopyOwn
import Derived.Maps.Own
import Derived.Maps.OwnOps
import Derived.Maps.OwnSet
import Derived.Maps.Views
import Derived.Test.YtiioklboaookiaaGreatDoorV1
namespace Go.Proofs.YtiioklboaookiaaGreatDoor.Rs
def xt (a:Nat):Nat:=if 2*a > 255 then (2*a) ^^^ 285 else 2*a
def pw:Nat→Nat
 | 0=>1
 | n+1=>xt (pw n)
def lgFrom:Nat→Nat→Nat→Nat→Nat
 | 0,_,_,_=>0
 | k+1,i,x,a=>if x=a then i else lgFrom k (i+1) (xt x) a
def lg (a:Nat):Nat:=lgFrom 255 0 1 a
def mulN (a b:Nat):Nat:=if a=0∨b=0 then 0 else pw (lg a+lg b)
def invN (a:Nat):Nat:=pw (255-lg a)
theorem lg_pw:∀ n,n<255→lg (pw n)=n:=by decide +kernel
theorem pw_bd0:∀ n,n<255→pw n<256∧pw n≠0:=by decide +kernel
theorem pw_lg:∀ a,a<256→a≠0→lg a<255∧pw (lg a)=a:=by decide +kernel
theorem pw_255:pw 255=1:=by decide +kernel
theorem pw_add (n:Nat):pw (n+255)=pw n:=by
 induction n with
 | zero=>rw [Nat.zero_add,pw_255];rfl
 | succ n ih =>
  have h:pw (n+255+1)=xt (pw (n+255)):=rfl
  rw [show n+1+255=n+255+1 from by omega,h,ih];rfl
theorem pw_mod (n:Nat):pw n=pw (n % 255):=by
 induction n using Nat.strongRecOn with
 | ind n ih =>
  by_cases h:n<255
  ·rw [Nat.mod_eq_of_lt h]
  ·obtain ⟨m,rfl⟩:∃ m,n=m+255:=⟨n-255,by omega⟩
   rw [pw_add,ih m (by omega),Nat.add_mod_right]
theorem pw_bd (n:Nat):pw n<256∧pw n≠0:=by rw [pw_mod];exact pw_bd0 _ (Nat.mod_lt _ (by omega))
theorem lg_pw' (n:Nat):lg (pw n)=n % 255:=by rw [pw_mod];exact lg_pw _ (Nat.mod_lt _ (by omega))
theorem pw_cong {a b:Nat} (h:a % 255=b % 255):pw a=pw b:=by rw [pw_mod a,pw_mod b,h]
theorem mulN_bd (a b:Nat):mulN a b<256:=by unfold mulN;split;omega;exact (pw_bd _).1
theorem mulN_comm (a b:Nat):mulN a b=mulN b a:=by unfold mulN;rw [Nat.add_comm];simp only [or_comm]
theorem mulN_zero (a:Nat):mulN a 0=0:=by simp [mulN]
theorem zero_mulN (a:Nat):mulN 0 a=0:=by simp [mulN]
theorem mulN_pw (m n:Nat):mulN (pw m) (pw n)=pw (m+n):=by
 unfold mulN;rw [if_neg (by have:=(pw_bd m).2;have:=(pw_bd n).2;omega),lg_pw',lg_pw'];apply pw_cong;omega
theorem ex_pw {a:Nat} (h:a<256) (h0:a≠0):∃ n,n<255∧a=pw n:=⟨lg a,(pw_lg a h h0).1,(pw_lg a h h0).2.symm⟩
theorem mulN_assoc (a b c:Nat) (ha:a<256) (hb:b<256) (hc:c<256):mulN (mulN a b) c=mulN a (mulN b c):=by
 by_cases a0:a=0
 ·subst a0;simp [zero_mulN]
 by_cases b0:b=0
 ·subst b0;simp [zero_mulN,mulN_zero]
 by_cases c0:c=0
 ·subst c0;simp [mulN_zero]
 obtain ⟨i,_,rfl⟩:=ex_pw ha a0
 obtain ⟨j,_,rfl⟩:=ex_pw hb b0
 obtain ⟨k,_,rfl⟩:=ex_pw hc c0
 simp only [mulN_pw,Nat.add_assoc]
def GF:=Fin 256
namespace GF
instance:DecidableEq GF:=inferInstanceAs (DecidableEq (Fin 256))
def mk (n:Nat) (h:n<256):GF:=Fin.mk n h
def v (a:GF):Nat:=Fin.val a
theorem v_lt (a:GF):a.v<256:=Fin.isLt a
theorem ext {a b:GF} (h:a.v=b.v):a=b:=Fin.ext h
instance:Zero GF:=⟨mk 0 (by omega)⟩
instance:One GF:=⟨mk 1 (by omega)⟩
instance:Add GF:=⟨fun a b=>mk (a.v ^^^ b.v) (Nat.xor_lt_two_pow (n:=8) a.v_lt b.v_lt)⟩
instance:Mul GF:=⟨fun a b=>mk (mulN a.v b.v) (mulN_bd _ _)⟩
def al (n:Nat):GF:=mk (pw n) (pw_bd n).1
theorem v_add (a b:GF):(a+b).v=a.v ^^^ b.v:=rfl
theorem add_comm (a b:GF):a+b=b+a:=ext (by simp only [v_add];ac_rfl)
theorem add_assoc (a b c:GF):a+b+c=a+(b+c):=ext (by simp only [v_add];ac_rfl)
theorem mul_comm (a b:GF):a*b=b*a:=ext (mulN_comm _ _)
theorem mul_assoc (a b c:GF):a*b*c=a*(b*c):=ext (mulN_assoc _ _ _ a.v_lt b.v_lt c.v_lt)
instance:Std.Commutative (α:=GF) (· + ·):=⟨add_comm⟩
instance:Std.Associative (α:=GF) (· + ·):=⟨add_assoc⟩
instance:Std.Commutative (α:=GF) (· * ·):=⟨mul_comm⟩
instance:Std.Associative (α:=GF) (· * ·):=⟨mul_assoc⟩
end GF
end Go.Proofs.YtiioklboaookiaaGreatDoor.Rs
namespace Go.Proofs.YtiioklboaookiaaGreatDoor.Hand
open Go.RowKit
open Rs (xt pw lg pw_bd lg_pw pw_lg pw_mod)
set_option linter.unusedVariables false
set_option linter.unusedSimpArgs false
theorem hid {p:Prop} (h:p):Hid p:=h
theorem w64_in (n:Int) (h0 : -1000000≤n) (h1:n≤1000000):wrap64 n=n:=by unfold wrap64;omega
theorem lg_bd:∀ n,n<256→lg n<255:=by decide +kernel
theorem lg_0:lg 0=0:=by decide +kernel
def pv (i j:Nat):Int:=if j % 255<i then pw j else 0
def lv (i j:Nat):Int:=if lg j<i∧j≠0 then lg j else 0
def zcells:Array Value:=(List.replicate 510 (Value.int .u8 0)++List.replicate 256 (Value.int .i64 0)).toArray
theorem zero84 (w:World):Sem.run Tryz.prog (zeroValue 194) w=.ok (.agg zcells) w:=by kernel_rfl
def Mid (b:Nat) (w:World) (i:Nat):Prop :=
 (∀ j,j<510→w.cell? ⟨b,j,none⟩=some (.int .u8 (pv i j))) ∧
 (∀ j,j<256→w.cell? ⟨b,510+j,none⟩=some (.int .i64 (lv i j))) ∧
 (∀ j,w.frozen? ⟨b,j,none⟩=false)∧b<w.heap.size
def IsField (w:World) (b:Nat):Prop :=
 (∀ j,j<510→w.cell? ⟨b,j,none⟩=some (.int .u8 (pw j))) ∧
 (∀ j,j<256→w.cell? ⟨b,510+j,none⟩=some (.int .i64 (lg j)))
theorem zcells_lo (j:Nat) (h:j<510):zcells[j]?=some (.int .u8 0):=by
 unfold zcells;rw [List.getElem?_toArray,List.getElem?_append_left (by rw [List.length_replicate];exact h),List.getElem?_replicate,if_pos h]
theorem zcells_hi (j:Nat) (h:j<256):zcells[510+j]?=some (.int .i64 0):=by
 unfold zcells;rw [List.getElem?_toArray,List.getElem?_append_right (by rw [List.length_replicate];omega),List.length_replicate,Nat.add_sub_cancel_left,List.getElem?_replicate,if_pos h]
theorem mid_start (w:World):Mid w.heap.size (w.alloc (.cells zcells 194)) 0:=by
 refine ⟨fun j hj=>?_,fun j hj=>?_,fun j=>by simp,by simp⟩
 ·rw [World.cell?_alloc_new,zcells_lo j hj];simp [pv]
 ·rw [World.cell?_alloc_new,zcells_hi j hj];simp [lv]
theorem mid_next {b i:Nat} {w:World} (h:Mid b w i) (hi:i<255) :
  Mid b (((w.setCell ⟨b,i,none⟩ (.int .u8 (pw i))).setCell ⟨b,i+255,none⟩ (.int .u8 (pw i))).setCell ⟨b,510+pw i,none⟩ (.int .i64 i)).drew (i+1):=by
 obtain ⟨h1,h2,h3,h4⟩:=h
 have hp:=pw_bd i
 have hlg:lg (pw i)=i:=lg_pw i hi
 have ne:∀ {j k:Nat},j≠k→(⟨b,j,none⟩:Addr)≠⟨b,k,none⟩:=fun e h=>e (by injection h)
 refine ⟨fun j hj=>?_,fun j hj=>?_,fun j=>by simp [h3],by simpa using h4⟩
 ·rw [World.cell?_drew,World.cell?_setCell_other _ _ _ _ (ne (by omega))]
  by_cases e2:j=i+255
  ·subst e2
   rw [World.cell?_setCell_same _ _ _ (u:=.int .u8 (pv i (i+255))) (by rw [World.cell?_setCell_other _ _ _ _ (ne (by omega))];exact h1 _ (by omega))]
   unfold pv;rw [if_pos (by omega),pw_mod (i+255),pw_mod i];simp
  ·rw [World.cell?_setCell_other _ _ _ _ (ne (Ne.symm e2))]
   by_cases e1:j=i
   ·subst e1
    rw [World.cell?_setCell_same _ _ _ (h1 _ (by omega))]
    unfold pv;rw [if_pos (by omega)]
   ·rw [World.cell?_setCell_other _ _ _ _ (ne (Ne.symm e1)),h1 j hj]
    unfold pv
    by_cases hlt:j % 255<i
    ·rw [if_pos hlt,if_pos (by omega)]
    ·rw [if_neg hlt,if_neg (by omega)]
 ·rw [World.cell?_drew]
  by_cases e:j=pw i
  ·subst e
   rw [World.cell?_setCell_same _ _ _ (u:=.int .i64 (lv i (pw i))) (by rw [World.cell?_setCell_other _ _ _ _ (ne (by omega)),World.cell?_setCell_other _ _ _ _ (ne (by omega))];exact h2 _ hp.1)]
   unfold lv;rw [hlg,if_pos ⟨by omega,hp.2⟩]
  ·rw [World.cell?_setCell_other _ _ _ _ (ne (by omega)),World.cell?_setCell_other _ _ _ _ (ne (by omega)),World.cell?_setCell_other _ _ _ _ (ne (by omega)),h2 j hj]
   unfold lv
   by_cases j0:j=0
   ·rw [if_neg (fun h=>h.2 j0),if_neg (fun h=>h.2 j0)]
   ·have hl:lg j≠i:=fun e'=>e (by rw [← e'];exact (pw_lg j hj j0).2.symm)
    by_cases hlt:lg j<i
    ·rw [if_pos ⟨hlt,j0⟩,if_pos ⟨by omega,j0⟩]
    ·rw [if_neg (fun h=>hlt h.1),if_neg (fun h=>by omega)]
theorem mid_end {b:Nat} {w:World} (h:Mid b w 255):IsField w b:=by
 refine ⟨fun j hj=>?_,fun j hj=>?_⟩
 ·rw [h.1 j hj];unfold pv;rw [if_pos (Nat.mod_lt _ (by omega))]
 ·rw [h.2.1 j hj];unfold lv
  by_cases j0:j=0
  ·rw [if_neg (fun h=>h.2 j0),j0,lg_0];rfl
  ·rw [if_pos ⟨lg_bd j hj,j0⟩]
theorem xt_big (n:Nat) (h:255<(pw n:Int)*2):bits BinOp.xor IntKind.i64 ((pw n:Int)*2) 285=pw (n+1):=by
 have e:∀ a:Nat,a<256→255<(a:Int)*2→bits BinOp.xor IntKind.i64 ((a:Int)*2) 285=xt a:=by decide +kernel
 exact e _ (pw_bd n).1 h
theorem xt_small (n:Nat) (h:(pw n:Int)*2≤255):(pw n:Int)*2=pw (n+1):=by
 show _=((xt (pw n):Nat):Int)
 unfold xt;rw [if_neg (by omega)];omega
def Tabs (w:World) (e:Ending) (w' : World):Prop:=∃ b,e=.returned (.pointer (some ⟨b,0,none⟩))∧w.heap.size≤b∧b<w'.heap.size∧IsField w' b∧Below w.heap.size w w'
set_option maxHeartbeats 2000000 in
set_option maxRecDepth 100000 in
theorem newField_calls (w:World):Calls Tryz.prog 125 #[] w (Tabs w):=by
 have hz:=zero84
 go_enter Tryz.func125,Tryz.ntmps125
 go_wp2
 clear hz
 go_loopg [2,6] 255 (fun kq v2 v6 w'=>∃ i:Nat,i+kq=255∧v2=.int .i64 (pw i)∧v6=.int .i64 i∧Hid (Mid w.heap.size w' i)∧Hid (Below w.heap.size w w'))
 case atStart=>exact ⟨0,rfl,rfl,rfl,mid_start w,(Below.refl _ _).alloc (Nat.le_refl _) _⟩
 case round =>
  obtain ⟨i,hi,rfl,rfl,hm,hb⟩:=hrel
  by_cases hlt:i<255
  ·have hx:(pw i:Int)<256:=by have:=(pw_bd i).1;omega
   have hx0:(0:Int)≤pw i:=by omega
   have a1:=hm.out.1 i (by omega)
   have a2:=hm.out.1 (i+255) (by omega)
   have a3:=hm.out.2.1 (pw i) (by omega)
   have f1:=hm.out.2.2.1 i
   have f2:=hm.out.2.2.1 (i+255)
   have f3:=hm.out.2.2.1 (510+pw i)
   go_wp2
   go_region
   all_goals go_wp2
   ·go_roundg (254-i)
    case rel=>exact ⟨i+1,by omega,by rw [xt_big i ‹_›],by go_num,mid_next hm.out hlt,(((hb.out.setCell (Nat.le_refl _) _).setCell (Nat.le_refl _) _).setCell (Nat.le_refl _) _).drew⟩
    case measure=>omega
   ·go_roundg (254-i)
    case rel=>exact ⟨i+1,by omega,by rw [xt_small i ‹_›],by go_num,mid_next hm.out hlt,(((hb.out.setCell (Nat.le_refl _) _).setCell (Nat.le_refl _) _).setCell (Nat.le_refl _) _).drew⟩
    case measure=>omega
  ·obtain rfl:i=255:=by omega
   go_wp2
   go_ret
   exact ⟨_,rfl,Nat.le_refl _,hm.out.2.2.2,mid_end hm.out,hb.out⟩
theorem tables_calls (w:World):Calls Tryz.prog 89 #[] w (Tabs w):=by
 go_enter Tryz.func89,Tryz.ntmps89
 go_wp2_with (go_at_call 125;refine (newField_calls _).mono ?_;rintro e w1 ⟨b1,rfl,hb1,hb2,hF,hB⟩)
 go_ret
 exact ⟨b1,rfl,hb1,hb2,hF,hB⟩
def in8 (a:Int):Bool:=decide (0≤a∧a<256)
def label_mul.f (a0 a1:Int):Option Int:=if in8 a0=true then (if in8 a1=true then some (Rs.mulN a0.toNat a1.toNat) else none) else none
def label_exp.f (a0:Int):Option Int:=if -100000≤a0∧a0≤100000 then some (pw (a0 % 255).toNat) else none
def label_inv.f (a0:Int):Option Int:=if in8 a0=true then some (Rs.invN a0.toNat) else none
theorem in8_nat {a:Int} (h:in8 a=true):∃ n:Nat,a=n∧n<256:=by
 have:=of_decide_eq_true h
 exact ⟨a.toNat,by omega,by omega⟩
set_option maxHeartbeats 800000 in
set_option maxRecDepth 100000 in
theorem mul_both (a b:Nat) (ha:0<a) (hb:0<b) (ha' : a<256) (hb' : b<256) (w:World):Calls Tryz.prog 54 #[.int .u8 a,.int .u8 b] w fun e w'=>e=.returned (.int .u8 (pw (lg a+lg b)))∧Below w.heap.size w w':=by
 have la:=lg_bd a ha'
 have lb:=lg_bd b hb'
 have za:((a:Int) == 0)=false:=by simp;omega
 have zb:((b:Int) == 0)=false:=by simp;omega
 go_enter Tryz.func54,Tryz.ntmps54
 go_wp2_with (fail)
 have ia:(a:Int)<256:=by omega
 have ib:(b:Int)<256:=by omega
 have ia0:(0:Int)≤(a:Int):=by omega
 have ib0:(0:Int)≤(b:Int):=by omega
 have s1:IntKind.i64.wrap ((lg a:Int)+(lg b:Int))=(lg a:Int)+(lg b:Int):=IntWalk.i64_in _ (by omega)
 have s2:(0:Int)≤(lg a:Int)+(lg b:Int):=by omega
 have s3:(lg a:Int)+(lg b:Int)<510:=by omega
 have s4:((lg a:Int)+(lg b:Int)).toNat=lg a+lg b:=by omega
 have tok1:True:=trivial
 go_region_with (first
  | (go_at_call 89;have _t:=tok1;clear tok1 _t;refine (tables_calls _).mono ?_;rintro e w1 ⟨b1,rfl,hb1,hb2,hF,hB⟩;have g1:=hF.1 (lg a+lg b) (by omega);have B1:=hid hB;clear hF hB;have tok2:True:=trivial)
  | (go_at_call 89;have _t:=tok2;clear tok2 _t;refine (tables_calls _).mono ?_;rintro e w2 ⟨b2,rfl,hb3,hb4,hF,hB⟩;have g2:=hF.2 a ha';have k1:=(hB.cell (p:=⟨b1,lg a+lg b,none⟩) hb2).trans g1;have B2:=hid hB;clear hF hB;have tok3:True:=trivial)
  | (go_at_call 89;have _t:=tok3;clear tok3 _t;refine (tables_calls _).mono ?_;rintro e w3 ⟨b3,rfl,hb5,hb6,hF,hB⟩;have g3:=hF.2 b hb';have k2:=(hB.cell (p:=⟨b1,lg a+lg b,none⟩) (Nat.lt_of_lt_of_le hb2 B2.out.size)).trans k1;have k3:=(hB.cell (p:=⟨b2,510+a,none⟩) hb4).trans g2;have B3:=hid hB;clear hF hB))
 all_goals
  go_wp2
  go_ret
  exact ⟨by first|rfl|(simp;done),(((Below.refl _ _).drew.trans (B1.out.mono (by simp))).trans (B2.out.mono (by have:=B1.out.size;simp at this;omega))).trans (B3.out.mono (by have:=B1.out.size;have:=B2.out.size;simp at *;omega))⟩
theorem mul_left0 (b:Int) (w:World):Calls Tryz.prog 54 #[.int .u8 0,.int .u8 b] w fun e w'=>e=.returned (.int .u8 0)∧Below w.heap.size w w':=by
 go_enter Tryz.func54,Tryz.ntmps54
 go_wp2
 go_ret
 exact ⟨rfl,Below.refl _ _⟩
theorem mul_right0 (a:Int) (h:(a == 0)=false) (w:World):Calls Tryz.prog 54 #[.int .u8 a,.int .u8 0] w fun e w'=>e=.returned (.int .u8 0)∧Below w.heap.size w w':=by
 go_enter Tryz.func54,Tryz.ntmps54
 go_wp2
 go_ret
 exact ⟨rfl,Below.refl _ _⟩
theorem label_mul.calls (a0 a1:Int) (r:Int) (w:World) (h:label_mul.f a0 a1=some r) :
  Calls Tryz.prog 54 #[.int .u8 a0,.int .u8 a1] w fun e w'=>e=.returned (.int .u8 r)∧Below w.heap.size w w':=by
 unfold label_mul.f at h
 by_cases h0:in8 a0=true
 ·rw [if_pos h0] at h
  by_cases h1:in8 a1=true
  ·rw [if_pos h1] at h
   obtain ⟨a,rfl,ha⟩:=in8_nat h0
   obtain ⟨b,rfl,hb⟩:=in8_nat h1
   rw [Int.toNat_natCast,Int.toNat_natCast] at h
   obtain rfl:=Option.some.inj h
   clear h
   unfold Rs.mulN
   by_cases a0:a=0
   ·rw [if_pos (.inl a0),a0];exact mul_left0 _ w
   ·by_cases b0:b=0
    ·rw [if_pos (.inr b0),b0];exact mul_right0 _ (by simp;omega) w
    ·rw [if_neg (by omega)];exact mul_both a b (by omega) (by omega) ha hb w
  ·rw [if_neg h1] at h;exact absurd h (by simp)
 ·rw [if_neg h0] at h;exact absurd h (by simp)
theorem emod_of (n:Int) (h : -100000≤n∧n≤100000):0≤n % 255∧n % 255<255∧-255<Int.tmod n 255∧Int.tmod n 255<255∧Int.tmod (Int.tmod n 255+255) 255=n % 255:=by
 have h1:Int.tmod n 255=if 0≤n∨(255:Int)∣n then n % 255 else n % 255-255:=by
  rw [Int.tmod_eq_emod];split <;> simp
 have a:0≤n % 255:=Int.emod_nonneg _ (by omega)
 have b:n % 255<255:=Int.emod_lt_of_pos _ (by omega)
 refine ⟨a,b,?_,?_,?_⟩
 ·rw [h1];split
  ·omega
  ·rename_i hn;have:n % 255≠0:=fun e=>hn (.inr (Int.dvd_of_emod_eq_zero e));omega
 ·rw [h1];split <;> omega
 ·rw [h1];split
  ·rw [Int.tmod_eq_emod_of_nonneg (by omega)];omega
  ·rw [Int.tmod_eq_emod_of_nonneg (by omega)];omega
set_option maxHeartbeats 800000 in
set_option maxRecDepth 100000 in
theorem exp_any (n:Int) (h : -100000≤n∧n≤100000) (w:World):Calls Tryz.prog 88 #[.int .i64 n] w fun e w'=>e=.returned (.int .u8 (pw (n % 255).toNat))∧Below w.heap.size w w':=by
 obtain ⟨a,b,c,d,e⟩:=emod_of n h
 obtain ⟨h1,h2⟩:=h
 go_enter Tryz.func88,Tryz.ntmps88
 obtain ⟨m,hm⟩:∃ m:Nat,n % 255=m:=⟨(n % 255).toNat,by omega⟩
 obtain ⟨t,ht⟩:∃ t:Int,Int.tmod n 255=t:=⟨_,rfl⟩
 have s1:wrap64 (t+255)=t+255:=w64_in _ (by omega) (by omega)
 have s3:wrap64 t=t:=w64_in _ (by omega) (by omega)
 have s4:Int.tmod (t+255) 255=m:=by rw [← ht,e,hm]
 have s5:wrap64 (m:Int)=m:=w64_in _ (by omega) (by omega)
 have b' : (m:Int)<255:=by omega
 have b2:(m:Int)<510:=by omega
 have HM:=hid hm
 clear hm e a b
 go_wp2_with (go_at_call 89;refine (tables_calls _).mono ?_;rintro e w1 ⟨b1,rfl,hb1,hb2,hF,hB⟩;have g1:=hF.1 m (by omega);have B1:=hid hB;clear hF hB)
 go_ret
 exact ⟨by rw [HM.out];rfl,B1.out⟩
theorem label_exp.calls (a0:Int) (r:Int) (w:World) (h:label_exp.f a0=some r) :
  Calls Tryz.prog 88 #[.int .i64 a0] w fun e w'=>e=.returned (.int .u8 r)∧Below w.heap.size w w':=by
 unfold label_exp.f at h
 by_cases h0 : -100000≤a0∧a0≤100000
 ·rw [if_pos h0] at h
  obtain rfl:=Option.some.inj h
  exact exp_any a0 h0 w
 ·rw [if_neg h0] at h;exact absurd h (by simp)
end Go.Proofs.YtiioklboaookiaaGreatDoor.Hand
namespace Go.Proofs.YtiioklboaookiaaGreatDoor.Hand
open Go.RowKit Go.Proofs.YtiioklboaookiaaGreatDoorW.PrintWords Go.Proofs.YtiioklboaookiaaGreatDoorW.PrintLast Go.Proofs.YtiioklboaookiaaGreatDoorW.PrintMore
open Rs (xt pw_bd lg_pw pw_lg pw_mod)
attribute [local go_sem] max2_int min2_int max_two min_two max_three min_three max_four min_four
set_option linter.unusedVariables false
set_option linter.unusedSimpArgs false
theorem Tryz.infoU8:(Tryz.prog.info? 5).map (fun i=>(i.zero,i.size,i.bytes))=some (some (.int .u8 0),1,1):=by kernel_rfl
theorem info_size {P:Program} {e:Nat} {z:Value} {b:Nat} (h:(P.info? e).map (fun i=>(i.zero,i.size,i.bytes))=some (some z,1,b)):(P.info? e).map (·.size)=some 1:=by
 cases hi:P.info? e with
 | none=>rw [hi] at h;simp at h
 | some i=>rw [hi] at h;simp at h;simp [h.2.1]
def label_extend.f (l0:List Int) (a1:Int):Option (List Int):=if 0≤a1 then (if a1≤100000 then (if (l0.length:Int)≤100000 then some (l0++List.replicate (a1.toNat-l0.length) 0) else none) else none) else none
end Go.Proofs.YtiioklboaookiaaGreatDoor.Hand
namespace Go.Proofs.YtiioklboaookiaaGreatDoor.Hand
open Go.RowKit Go.Proofs.YtiioklboaookiaaGreatDoorW.PrintWords Go.Proofs.YtiioklboaookiaaGreatDoorW.PrintLast Go.Proofs.YtiioklboaookiaaGreatDoorW.PrintMore
open Rs (xt pw_bd lg_pw pw_lg pw_mod)
attribute [local go_sem] max2_int min2_int max_two min_two max_three min_three max_four min_four
set_option linter.unusedVariables false
set_option linter.unusedSimpArgs false
theorem mulN_in {x y:Int}:in8 (Rs.mulN x.toNat y.toNat:Nat)=true:=decide_eq_true (by have:=Rs.mulN_bd x.toNat y.toNat;omega)
theorem label_mul.some {x y:Int} (hx:in8 x=true) (hy:in8 y=true):label_mul.f x y=Option.some ((Rs.mulN x.toNat y.toNat:Nat):Int):=by
 unfold label_mul.f;rw [if_pos hx,if_pos hy]
set_option maxHeartbeats 1000000 in
set_option maxRecDepth 100000 in
theorem times1_skip (i k:Nat) (lim:Int) (bl bo bp bq:Nat) (w:World) (hi:(i:Int)≤100000) (hk:(k:Int)≤100000) (hL:w.heap[bl]?=some (.cells #[.int .i64 lim] 3 (0,0))) (h:lim≤(i:Int)+k) :
  Calls Tryz.prog 124 #[.int .i64 i,.int .i64 k,.pointer (some ⟨bl,0,none⟩),.pointer (some ⟨bo,0,none⟩),.pointer (some ⟨bp,0,none⟩),.pointer (some ⟨bq,0,none⟩)] w fun e w'=>e=.returned (.tuple #[])∧Drawn0 w w':=by
 have c1:=cell_of_one hL
 have d:decide ((i:Int)+k<lim)=false:=decide_eq_false (by omega)
 clear hL
 go_enter Tryz.func124,Tryz.ntmps124
 go_wp2
 go_end0
 exact ⟨rfl,Drawn0.refl _⟩
set_option maxHeartbeats 4000000 in
set_option maxRecDepth 100000 in
theorem times1_does (i k:Nat) (lim x y z m:Int) (bl bo bp bq g n cap lp cp lq cq:Nat) (ap aq:Addr) (w:World) (hi:(i:Int)≤100000) (hk:(k:Int)≤100000)
  (hL:w.heap[bl]?=some (.cells #[.int .i64 lim] 3 (0,0))) (hO:w.heap[bo]?=some (.cells #[.slice (some ⟨g,0,none⟩) n cap] 32 (0,0)))
  (hP:w.heap[bp]?=some (.cells #[.slice (some ap) lp cp] 32 (0,0))) (hQ:w.heap[bq]?=some (.cells #[.slice (some aq) lq cq] 32 (0,0)))
  (h:(i:Int)+k<lim) (hn:i+k<n) (hlp:i<lp) (hlq:k<lq) (hx:w.cell? (ap.add i)=some (.int .u8 x)) (hy:w.cell? (aq.add k)=some (.int .u8 y))
  (hz:w.cell? ⟨g,i+k,none⟩=some (.int .u8 z)) (hf:w.frozen? ⟨g,i+k,none⟩=false) (hm:label_mul.f x y=some m) :
  Calls Tryz.prog 124 #[.int .i64 i,.int .i64 k,.pointer (some ⟨bl,0,none⟩),.pointer (some ⟨bo,0,none⟩),.pointer (some ⟨bp,0,none⟩),.pointer (some ⟨bq,0,none⟩)] w fun e w' =>
   e=.returned (.tuple #[])∧∃ w1,Below w.heap.size w w1∧w' = w1.setCell ⟨g,i+k,none⟩ (.int .u8 (Go.bits .xor .u8 z m)):=by
 have c1:=cell_of_one hL
 have c2:=cell_of_one hO
 have c3:=cell_of_one hP
 have c4:=cell_of_one hQ
 have d:decide ((i:Int)+k<lim)=true:=decide_eq_true h
 have l2:=World.block_lt_of_cell? w _ c2
 have l3:=World.block_lt_of_cell? w _ c3
 have l4:=World.block_lt_of_cell? w _ c4
 have lx:=World.block_lt_of_cell? w _ hx
 have ly:=World.block_lt_of_cell? w _ hy
 have lz:=World.block_lt_of_cell? w _ hz
 have hM:=hid hm
 clear hm h hL hO hP hQ
 go_enter Tryz.func124,Tryz.ntmps124
 have e0:(0:Int)≤(i:Int)+k:=by omega
 have e1:(i:Int)+k<(n:Int):=by omega
 have e2:((i:Int)+k).toNat=i+k:=by omega
 have e3:IntKind.i64.wrap ((i:Int)+(k:Int))=(i:Int)+(k:Int):=IntWalk.i64_in _ (by omega)
 have e4:(i:Int)<lp:=by omega
 have e5:(k:Int)<lq:=by omega
 have e6:(0:Int)≤(i:Int):=by omega
 have e7:(0:Int)≤(k:Int):=by omega
 go_wp2_with (fail)
 refine start_ (n:=18) (S:=fun w'=>w'.cell? ⟨bo,0,none⟩=some (.slice (some ⟨g,0,none⟩) n cap)∧w'.cell? ⟨bp,0,none⟩=some (.slice (some ap) lp cp)∧w'.cell? ⟨bq,0,none⟩=some (.slice (some aq) lq cq)∧w'.cell? (ap.add i)=some (.int .u8 x)∧w'.cell? (aq.add k)=some (.int .u8 y)∧w'.cell? ⟨g,i+k,none⟩=some (.int .u8 z)) (ds:=[17]) #[false,false,false,false,false,false,false,false,false,false,false,false,false,false,false,false,false,false] (by kernel_rfl) rfl rfl ⟨c2,c3,c4,hx,hy,hz⟩ (fun hHeld=>?_)
 refine pure_ (i:=1) (N:=some 14) (v:=?_) (a':=?_) #[false,true,false,false,false,false,false,false,false,false,false,false,false,false,false,false,false,false] rfl rfl (by kernel_rfl) (fun _ _ _ h=>h) (Or.inl ⟨by rfl,?_⟩) ?_ ?_
 rotate_left
 ·intro w'
  go_simp
  with_reducible rfl
 rotate_left
 ·simp only [Act.put,sp__,i64_w,i32_w]
  rfl
 refine pure_ (i:=2) (N:=some 15) (v:=?_) (a':=?_) #[false,true,true,false,false,false,false,false,false,false,false,false,false,false,false,false,false,false] rfl rfl (by kernel_rfl) (fun _ _ _ h=>h) (Or.inl ⟨by rfl,?_⟩) ?_ ?_
 rotate_left
 ·intro w'
  go_simp
  with_reducible rfl
 rotate_left
 ·simp only [Act.put,sp__,i64_w,i32_w]
  rfl
 refine pure_ (i:=3) (N:=some 16) (v:=?_) (a':=?_) #[false,true,true,true,false,false,false,false,false,false,false,false,false,false,false,false,false,false] rfl rfl (by kernel_rfl) (fun _ _ _ h=>h) (Or.inl ⟨by rfl,?_⟩) ?_ ?_
 rotate_left
 ·intro w'
  go_simp
  with_reducible rfl
 rotate_left
 ·simp only [Act.put,sp__,i64_w,i32_w]
  rfl
 refine pure_ (i:=7) (N:=some 20) (v:=?_) (a':=?_) #[false,true,true,true,false,false,false,true,false,false,false,false,false,false,false,false,false,false] rfl rfl (by kernel_rfl) (fun _ _ _ h=>h) (Or.inl ⟨by rfl,?_⟩) ?_ ?_
 rotate_left
 ·intro w'
  go_simp
  with_reducible rfl
 rotate_left
 ·simp only [Act.put,sp__,i64_w,i32_w]
  rfl
 refine pure_ (i:=11) (N:=some 24) (v:=?_) (a':=?_) #[false,true,true,true,false,false,false,true,false,false,false,true,false,false,false,false,false,false] rfl rfl (by kernel_rfl) (fun _ _ _ h=>h) (Or.inl ⟨by rfl,?_⟩) ?_ ?_
 rotate_left
 ·intro w'
  go_simp
  with_reducible rfl
 rotate_left
 ·simp only [Act.put,sp__,i64_w,i32_w]
  rfl
 refine take_ (i:=0) (N:=some 13) (v:=?_) (a':=?_) #[true,true,true,true,false,false,false,true,false,false,false,true,false,false,false,false,false,false] rfl rfl (by kernel_rfl) (fun _ _ _ h=>h) (Or.inl ⟨by rfl,?_⟩) hHeld ?_ ?_
 rotate_left
 ·rintro w' ⟨s0,s1,s2,s3,s4,s5⟩
  go_simp
  with_reducible rfl
 rotate_left
 ·simp only [Act.put,sp__,i64_w,i32_w]
  rfl
 refine pure_ (i:=4) (N:=some 17) (v:=?_) (a':=?_) #[true,true,true,true,true,false,false,true,false,false,false,true,false,false,false,false,false,false] rfl rfl (by kernel_rfl) (fun _ _ _ h=>h) (Or.inl ⟨by rfl,?_⟩) ?_ ?_
 rotate_left
 ·intro w'
  go_simp
  with_reducible rfl
 rotate_left
 ·simp only [Act.put,sp__,i64_w,i32_w]
  rfl
 refine take_ (i:=5) (N:=some 18) (v:=?_) (a':=?_) #[true,true,true,true,true,true,false,true,false,false,false,true,false,false,false,false,false,false] rfl rfl (by kernel_rfl) (fun _ _ _ h=>h) (Or.inl ⟨by rfl,?_⟩) hHeld ?_ ?_
 rotate_left
 ·rintro w' ⟨s0,s1,s2,s3,s4,s5⟩
  go_simp
  with_reducible rfl
 rotate_left
 ·simp only [Act.put,sp__,i64_w,i32_w]
  rfl
 refine take_ (i:=6) (N:=some 19) (v:=?_) (a':=?_) #[true,true,true,true,true,true,true,true,false,false,false,true,false,false,false,false,false,false] rfl rfl (by kernel_rfl) (fun _ _ _ h=>h) (Or.inl ⟨by rfl,?_⟩) hHeld ?_ ?_
 rotate_left
 ·rintro w' ⟨s0,s1,s2,s3,s4,s5⟩
  go_simp
  with_reducible rfl
 rotate_left
 ·simp only [Act.put,sp__,i64_w,i32_w]
  rfl
 refine pure_ (i:=8) (N:=some 21) (v:=?_) (a':=?_) #[true,true,true,true,true,true,true,true,true,false,false,true,false,false,false,false,false,false] rfl rfl (by kernel_rfl) (fun _ _ _ h=>h) (Or.inl ⟨by rfl,?_⟩) ?_ ?_
 rotate_left
 ·intro w'
  go_simp
  with_reducible rfl
 rotate_left
 ·simp only [Act.put,sp__,i64_w,i32_w]
  rfl
 refine take_ (i:=9) (N:=some 22) (v:=?_) (a':=?_) #[true,true,true,true,true,true,true,true,true,true,false,true,false,false,false,false,false,false] rfl rfl (by kernel_rfl) (fun _ _ _ h=>h) (Or.inl ⟨by rfl,?_⟩) hHeld ?_ ?_
 rotate_left
 ·rintro w' ⟨s0,s1,s2,s3,s4,s5⟩
  go_simp
  with_reducible rfl
 rotate_left
 ·simp only [Act.put,sp__,i64_w,i32_w]
  rfl
 refine take_ (i:=10) (N:=some 23) (v:=?_) (a':=?_) #[true,true,true,true,true,true,true,true,true,true,true,true,false,false,false,false,false,false] rfl rfl (by kernel_rfl) (fun _ _ _ h=>h) (Or.inl ⟨by rfl,?_⟩) hHeld ?_ ?_
 rotate_left
 ·rintro w' ⟨s0,s1,s2,s3,s4,s5⟩
  go_simp
  with_reducible rfl
 rotate_left
 ·simp only [Act.put,sp__,i64_w,i32_w]
  rfl
 refine pure_ (i:=12) (N:=some 25) (v:=?_) (a':=?_) #[true,true,true,true,true,true,true,true,true,true,true,true,true,false,false,false,false,false] rfl rfl (by kernel_rfl) (fun _ _ _ h=>h) (Or.inl ⟨by rfl,?_⟩) ?_ ?_
 rotate_left
 ·intro w'
  go_simp
  with_reducible rfl
 rotate_left
 ·simp only [Act.put,sp__,i64_w,i32_w]
  rfl
 refine take_ (i:=13) (N:=some 26) (v:=?_) (a':=?_) #[true,true,true,true,true,true,true,true,true,true,true,true,true,true,false,false,false,false] rfl rfl (by kernel_rfl) (fun _ _ _ h=>h) (Or.inl ⟨by rfl,?_⟩) hHeld ?_ ?_
 rotate_left
 ·rintro w' ⟨s0,s1,s2,s3,s4,s5⟩
  go_simp
  with_reducible rfl
 rotate_left
 ·simp only [Act.put,sp__,i64_w,i32_w]
  rfl
 refine one_ (i:=14) (N:=some 27) #[true,true,true,true,true,true,true,true,true,true,true,true,true,true,true,false,false,false] rfl rfl (by kernel_rfl) (by decide) (fun K hK=>?_)
 refine goes_ Tryz.func54 (by kernel_rfl) rfl #[.int .u8 x,.int .u8 y] (by rfl) rfl rfl (by (try simp only [List.map_toArray,List.map_cons,List.map_nil]);first|done|rfl) ?_
 with_reducible refine (label_mul.calls x y m _ hM.out).mono ?_
 rintro e w1 ⟨rfl,hB⟩
 have B1:=Aside0.mk hB
 clear hB
 have gz:=(B1.out.cell (p:=⟨g,i+k,none⟩) (by simpa using lz)).trans hz
 have gf:=(B1.out.frozen (p:=⟨g,i+k,none⟩) (by simpa using lz)).trans hf
 refine ⟨_,rfl,?_⟩
 refine hK.out _ _ ⟨(B1.out.cell (p:=⟨bo,0,none⟩) (by simpa using l2)).trans c2,(B1.out.cell (p:=⟨bp,0,none⟩) (by simpa using l3)).trans c3,(B1.out.cell (p:=⟨bq,0,none⟩) (by simpa using l4)).trans c4,(B1.out.cell (p:=ap.add i) (by simpa using lx)).trans hx,(B1.out.cell (p:=aq.add k) (by simpa using ly)).trans hy,gz⟩ (fun hHeld=>?_)
 clear hK K
 refine norm_ (a':=?_) ?_ ?_
 rotate_left
 ·show Act.put _ (some 27) _=_
  simp only [Act.put,sp__,i64_w,i32_w]
  rfl
 refine pure_ (i:=15) (N:=some 28) (v:=?_) (a':=?_) #[true,true,true,true,true,true,true,true,true,true,true,true,true,true,true,true,false,false] rfl rfl (by kernel_rfl) (fun _ _ _ h=>h) (Or.inl ⟨by rfl,?_⟩) ?_ ?_
 rotate_left
 ·intro w'
  go_simp
  with_reducible rfl
 rotate_left
 ·simp only [Act.put,sp__,i64_w,i32_w]
  rfl
 refine pure_ (i:=16) (N:=some 29) (v:=?_) (a':=?_) #[true,true,true,true,true,true,true,true,true,true,true,true,true,true,true,true,true,false] rfl rfl (by kernel_rfl) (fun _ _ _ h=>h) (Or.inl ⟨by rfl,?_⟩) ?_ ?_
 rotate_left
 ·intro w'
  go_simp
  with_reducible rfl
 rotate_left
 ·simp only [Act.put,sp__,i64_w,i32_w]
  rfl
 refine last_ (i:=17) (N:=none) #[true,true,true,true,true,true,true,true,true,true,true,true,true,true,true,true,true,true] rfl rfl (by kernel_rfl) (by decide) (fun K hK=>?_)
 refine skip_ (w1:=?_) (by rfl) rfl ?_ ?_
 rotate_left
 ·go_simp
  rfl
 refine hK.out _ _ ?_
 clear hK K
 refine done_ (by kernel_rfl) ?_
 try go_wp2
 go_end0
 exact ⟨rfl,_,(Below.refl _ _).drew.trans (B1.out.mono (by simp)),rfl⟩
def tin (x:Int):List Int→Nat→List Int→List Int
 | [],_,out=>out
 | y::q,a,out=>tin x q (a+1) (out.set a (Go.bits .xor .u8 (rd out a) (Rs.mulN x.toNat y.toNat:Nat)))
def tout (q:List Int):List Int→Nat→List Int→List Int
 | [],_,out=>out
 | x::p,a,out=>tout q p (a+1) (tin x q a out)
def bytesB (l:List Int):Bool:=l.all in8
def label_times.f (l0 l1:List Int) (a2:Int):Option (List Int) :=
 if 0≤a2∧a2≤100000∧(l0.length:Int)≤100000∧(l1.length:Int)≤100000∧bytesB l0=true∧bytesB l1=true then some (tout l1 l0 0 (List.replicate a2.toNat 0)) else none
theorem bytesB_rd {l:List Int} (h:bytesB l=true) (i:Nat) (hi:i<l.length):in8 (rd l i)=true:=by
 unfold rd;rw [Int.toNat_natCast,List.getD_eq_getElem?_getD,List.getElem?_eq_getElem hi]
 exact List.all_eq_true.1 h _ (List.getElem_mem hi)
theorem drop_rd {l:List Int} (i:Nat) (hi:i<l.length):l.drop i=rd l i::l.drop (i+1):=by
 unfold rd;rw [Int.toNat_natCast,List.getD_eq_getElem?_getD,List.getElem?_eq_getElem hi,List.drop_eq_getElem_cons hi];rfl
theorem set_out {l:List Int} (i:Nat) (v:Int) (h:l.length≤i):l.set i v=l:=List.set_eq_of_length_le h
theorem R_made {w:World} {base g n:Nat} {e:TypeId} (hb:base≤g) (h:w.heap[g]?=some (.cells (madeCells #[.int .u8 0] n) e (0,0))) (hn:n≤maxLen) :
  Kd.R (Kd.int .u8) e w base (fun _=>True) (.slice (some ⟨g,0,none⟩) n n) (List.replicate n 0):=by
 refine Kd.R_of_own (h1:=fun _=>rfl) ?_ (fun _ _=>trivial)
 refine ⟨by simp [encs],.inr ⟨g,n,_,by simp,hb,h,by simp,hn,by rw [size_madeCells,Nat.mul_one],?_⟩⟩
 apply List.ext_getElem
 ·simp [size_madeCells,encs]
 ·intro j h1 h2
  simp [madeCells,encs,Nat.mod_one]
def Boxes (B:Nat) (A0:Option Addr) (n0 c0:Nat) (A1:Option Addr) (n1 c1 n:Nat) (w:World):Prop :=
 w.heap[B]?=some (.cells #[.slice A0 n0 c0] 32 (0,0))∧w.heap[B+1]?=some (.cells #[.slice A1 n1 c1] 32 (0,0)) ∧
 w.heap[B+1+1]?=some (.cells #[.int .i64 n] 3 (0,0))∧w.heap[B+1+1+1+1]?=some (.cells #[.slice (some ⟨B+1+1+1,0,none⟩) n n] 32 (0,0))
theorem lt_of_some {α:Type} {a:Array α} {i:Nat} {v:α} (h:a[i]?=some v):i<a.size:=by
 rcases Nat.lt_or_ge i a.size with h' | h'
 ·exact h'
 ·rw [Array.getElem?_eq_none h'] at h;exact absurd h (by simp)
theorem Boxes.lt {B:Nat} {A0:Option Addr} {n0 c0:Nat} {A1:Option Addr} {n1 c1 n:Nat} {w:World} (h:Boxes B A0 n0 c0 A1 n1 c1 n w):B<w.heap.size∧B+1<w.heap.size∧B+1+1<w.heap.size∧B+1+1+1+1<w.heap.size :=
 ⟨lt_of_some h.1,lt_of_some h.2.1,lt_of_some h.2.2.1,lt_of_some h.2.2.2⟩
theorem heap_old (w:World) (o:Obj) (k:Nat) (h:k<w.heap.size):(w.alloc o).heap[k]?=w.heap[k]?:=Below.heap_alloc w o k h
theorem heap_new (w:World) (o:Obj) (k:Nat) (h:k=w.heap.size):(w.alloc o).heap[k]?=some o:=by
 subst h;show (w.heap.push o)[w.heap.size]?=_;simp
theorem times_boxes (w:World) (A0:Option Addr) (n0 c0:Nat) (A1:Option Addr) (n1 c1 n:Nat) (R:Obj):Boxes w.heap.size A0 n0 c0 A1 n1 c1 n
  (((((w.alloc (.cells #[.slice A0 n0 c0] 32)).alloc (.cells #[.slice A1 n1 c1] 32)).alloc (.cells #[.int .i64 n] 3)).alloc R).alloc (.cells #[.slice (some ⟨w.heap.size+1+1+1,0,none⟩) n n] 32)):=by
 refine ⟨?_,?_,?_,?_⟩
 ·rw [heap_old _ _ _ (by first|(simp;done)|(simp;omega)),heap_old _ _ _ (by first|(simp;done)|(simp;omega)),heap_old _ _ _ (by first|(simp;done)|(simp;omega)),heap_old _ _ _ (by simp),heap_new _ _ _ rfl]
 ·rw [heap_old _ _ _ (by first|(simp;done)|(simp;omega)),heap_old _ _ _ (by first|(simp;done)|(simp;omega)),heap_old _ _ _ (by simp),heap_new _ _ _ (by simp)]
 ·rw [heap_old _ _ _ (by first|(simp;done)|(simp;omega)),heap_old _ _ _ (by simp),heap_new _ _ _ (by simp)]
 ·rw [heap_new _ _ _ (by simp)]
theorem times_row (w:World) (a b c:Obj) (d:Obj) (v:Value) (t:TypeId):(((((w.alloc a).alloc b).alloc c).alloc d).alloc (.cells #[v] t)).heap[w.heap.size+1+1+1]?=some d:=by
 rw [heap_old _ _ _ (by simp),heap_new _ _ _ (by simp)]
set_option maxHeartbeats 4000000 in
set_option maxRecDepth 100000 in
theorem times_walk (A0:Option Addr) (c0:Nat) (l0:List Int) (A1:Option Addr) (c1:Nat) (l1:List Int) (n:Nat) (r:List Int) (w:World) (hr0:Kd.C (Kd.int .u8) w A0 l0.length l0) (hc0:l0.length≤c0) (hr1:Kd.C (Kd.int .u8) w A1 l1.length l1) (hc1:l1.length≤c1)
  (hn:(n:Int)≤100000) (h0:(l0.length:Int)≤100000) (h1:(l1.length:Int)≤100000) (b0:bytesB l0=true) (b1:bytesB l1=true) (hr:tout l1 l0 0 (List.replicate n 0)=r) :
  Calls Tryz.prog 87 #[.slice A0 l0.length c0,.slice A1 l1.length c1,.int .i64 n] w fun e w'=>∃ v0_:Value,e=.returned (v0_)∧Kd.R (Kd.int .u8) 5 w' w.heap.size (fun _=>True) v0_ r∧Below w.heap.size w w':=by
 have HR0:=Aside0.mk hr0
 have HR1:=Aside0.mk hr1
 have HH:=Aside0.mk hr
 have HB0:=Aside0.mk b0
 have HB1:=Aside0.mk b1
 clear hr0 hr1 hr hc0 hc1 b0 b1
 have n0:(0:Int)≤(n:Int):=by omega
 have hmk:=fun w=>run_make_row' (P:=Tryz.prog) 32 5 (.int .u8 0) 1 Tryz.underlying32 Tryz.infoU8 rfl .i64 .i64 n (by omega) (by omega) w
 go_enter Tryz.func87,Tryz.ntmps87
 go_wp2
 clear hmk
 go_loopg [16] l0.length (fun kq v16 w'=>∃ (i:Nat) (l:List Int),v16=.int .i64 i∧i+kq=l0.length∧Aside0 (tout l1 (l0.drop i) i l=r)∧Aside0 (l.length=n)∧Aside0 (Boxes w.heap.size A0 l0.length c0 A1 l1.length c1 n w')∧Aside0 (Kd.R (Kd.int .u8) 5 w' w.heap.size (fun _=>True) (.slice (some ⟨w.heap.size+1+1+1,0,none⟩) n n) l)∧Aside0 (Below w.heap.size w w'))
 case atStart =>
  refine ⟨0,List.replicate n 0,rfl,by omega,⟨HH.out⟩,⟨List.length_replicate⟩,⟨?_⟩,⟨?_⟩,⟨?_⟩⟩
  ·exact times_boxes _ _ _ _ _ _ _ _ _
  ·exact R_made (by omega) (times_row _ _ _ _ _ _ _) (by unfold maxLen;omega)
  ·exact ((((((Below.refl _ _).alloc (Nat.le_refl _) _).alloc (by simp) _).alloc (by first|(simp;done)|(simp;omega)) _).alloc (by first|(simp;done)|(simp;omega)) _).alloc (by first|(simp;done)|(simp;omega)) _)
 case round =>
  obtain ⟨i,l,rfl,hi,HT,HL,HX,HO,HB⟩:=hrel
  by_cases hlt:i<l0.length
  ·have d1:decide ((i:Int)<(l0.length:Int))=true:=decide_eq_true (by omega)
   obtain ⟨x1,x2,x3,x4⟩:=HX.out
   have y1:=cell_of_one x1
   have y2:=cell_of_one x2
   clear x1 x2 x3 x4
   go_wp2
   clear y1 y2
   go_loopg [21] l1.length (fun kq v21 w'=>∃ (k:Nat) (l:List Int),v21=.int .i64 k∧k+kq=l1.length∧Aside0 (tout l1 (l0.drop (i+1)) (i+1) (tin (rd l0 i) (l1.drop k) (i+k) l)=r)∧Aside0 (l.length=n)∧Aside0 (Boxes w.heap.size A0 l0.length c0 A1 l1.length c1 n w')∧Aside0 (Kd.R (Kd.int .u8) 5 w' w.heap.size (fun _=>True) (.slice (some ⟨w.heap.size+1+1+1,0,none⟩) n n) l)∧Aside0 (Below w.heap.size w w'))
   case atStart=>exact ⟨0,l,rfl,by omega,⟨by have:=HT.out;rw [drop_rd i hlt] at this;exact this⟩,HL,HX,HO,HB⟩
   case round =>
    clear HT HL HX HO HB
    obtain ⟨k,l,rfl,hk,HT,HL,HX,HO,HB⟩:=hrel
    by_cases hkt:k<l1.length
    ·have d2:decide ((k:Int)<(l1.length:Int))=true:=decide_eq_true (by omega)
     by_cases hin:i+k<n
     ·obtain ⟨ax,ex,hx0⟩:=Kd.at_int HR0.out (i:Int) (by omega) (by omega)
      obtain ⟨ay,ey,hy0⟩:=Kd.at_int HR1.out (k:Int) (by omega) (by omega)
      obtain ⟨hz0,hf0⟩:=Kd.R_celln 0 HO.out ((i+k:Nat):Int) (by omega) (by omega)
      rw [Int.toNat_natCast] at hx0 hy0 hz0 hf0
      have hx:=(HB.out.cell (World.block_lt_of_cell? w _ hx0)).trans hx0
      have hy:=(HB.out.cell (World.block_lt_of_cell? w _ hy0)).trans hy0
      have HX1:=hid hx
      have HX2:=hid hy
      have HX3:=hid hz0
      have HX4:=hid hf0
      have HX5:=hid ex
      have HX6:=hid ey
      clear hx hy hx0 hy0 hz0 hf0 ex ey
      go_wp2_with (go_at_call 124;refine (times1_does i k n (rd l0 i) (rd l1 k) (rdOf 0 l ((i+k:Nat):Int)) _ (w.heap.size+1+1) (w.heap.size+1+1+1+1) w.heap.size (w.heap.size+1) (w.heap.size+1+1+1) n n l0.length c0 l1.length c1 ax ay _ (by omega) (by omega) HX.out.2.2.1 HX.out.2.2.2 (by have:=HX.out.1;rw [HX5.out] at this;exact this) (by have:=HX.out.2.1;rw [HX6.out] at this;exact this) (by omega) hin hlt hkt HX1.out HX2.out HX3.out HX4.out (label_mul.some (bytesB_rd HB0.out i hlt) (bytesB_rd HB1.out k hkt))).mono ?_;rintro e w2 ⟨rfl,w1,hB,rfl⟩;have B1:=Aside0.mk hB;clear hB)
      go_roundg (l1.length-(k+1))
      case rel =>
       have e1:k+(1:Nat)=k+1:=rfl
       refine ⟨k+1,l.set (i+k) (Go.bits .xor .u8 (rd l (i+k:Nat)) (Rs.mulN (rd l0 i).toNat (rd l1 k).toNat:Nat)),by go_num,by omega,⟨by have:=HT.out;rw [drop_rd k hkt] at this;exact this⟩,⟨by rw [List.length_set];exact HL.out⟩,⟨?_⟩,⟨?_⟩,⟨?_⟩⟩
       ·obtain ⟨x1,x2,x3,x4⟩:=HX.out
        exact ⟨blk_far ((B1.out.block _ (Boxes.lt HX.out).1).trans x1) (by dsimp only;omega) _,blk_far ((B1.out.block _ (Boxes.lt HX.out).2.1).trans x2) (by dsimp only;omega) _,blk_far ((B1.out.block _ (Boxes.lt HX.out).2.2.1).trans x3) (by dsimp only;omega) _,blk_far ((B1.out.block _ (Boxes.lt HX.out).2.2.2).trans x4) (by dsimp only;omega) _⟩
       ·have:=Kd.R_putn (Kd.R_below HO.out B1.out) ((i+k:Nat):Int) (Go.bits .xor .u8 (rd l (i+k:Nat)) (Rs.mulN (rd l0 i).toNat (rd l1 k).toNat:Nat))
        rw [Int.toNat_natCast] at this
        exact this
       ·exact (HB.out.trans (B1.out.mono HB.out.size)).setCell (by dsimp only;omega) _
      case measure=>omega
     ·go_wp2_with (go_at_call 124;refine (times1_skip i k n (w.heap.size+1+1) (w.heap.size+1+1+1+1) w.heap.size (w.heap.size+1) _ (by omega) (by omega) HX.out.2.2.1 (by omega)).mono ?_;rintro e w2 ⟨rfl,⟨nd,rfl⟩⟩)
      go_roundg (l1.length-(k+1))
      case rel=>exact ⟨k+1,l,by go_num,by omega,⟨by have:=HT.out;rw [drop_rd k hkt] at this;unfold tin at this;rw [set_out _ _ (by have:=HL.out;omega)] at this;exact this⟩,HL,⟨HX.out⟩,⟨Kd.R_drewN HO.out _⟩,⟨pw_below_drewN HB.out _⟩⟩
      case measure=>omega
    ·have d2:decide ((k:Int)<(l1.length:Int))=false:=decide_eq_false (by omega)
     go_wp2
     go_roundg (l0.length-(i+1))
     case rel=>exact ⟨i+1,l,by go_num,by omega,⟨by have:=HT.out;have e:l1.drop k=[]:=List.drop_eq_nil_of_le (by omega);rw [e] at this;exact this⟩,HL,HX,HO,HB⟩
     case measure=>omega
  ·have d1:decide ((i:Int)<(l0.length:Int))=false:=decide_eq_false (by omega)
   have y4:=cell_of_one HX.out.2.2.2
   go_wp2
   go_ret
   exact ⟨_,rfl,by have h1:=HT.out;have e:l0.drop i=[]:=List.drop_eq_nil_of_le (by omega);rw [e] at h1;exact h1 ▸ HO.out,HB.out⟩
theorem label_times.calls (A0:Option Addr) (c0:Nat) (l0:List Int) (A1:Option Addr) (c1:Nat) (l1:List Int) (a2:Int) (r:List Int) (w:World) (hr0:Kd.C (Kd.int .u8) w A0 l0.length l0) (hc0:l0.length≤c0) (hr1:Kd.C (Kd.int .u8) w A1 l1.length l1) (hc1:l1.length≤c1) (h:label_times.f l0 l1 a2=some r) :
  Calls Tryz.prog 87 #[.slice A0 l0.length c0,.slice A1 l1.length c1,.int .i64 a2] w fun e w'=>∃ v0_:Value,e=.returned (v0_)∧Kd.R (Kd.int .u8) 5 w' w.heap.size (fun _=>True) v0_ r∧Below w.heap.size w w':=by
 unfold label_times.f at h
 by_cases hc:0≤a2∧a2≤100000∧(l0.length:Int)≤100000∧(l1.length:Int)≤100000∧bytesB l0=true∧bytesB l1=true
 ·rw [if_pos hc] at h
  obtain rfl:=Option.some.inj h
  obtain ⟨h0,h1,h2,h3,h4,h5⟩:=hc
  obtain ⟨n,rfl⟩:=Int.eq_ofNat_of_zero_le h0
  exact times_walk A0 c0 l0 A1 c1 l1 n _ w hr0 hc0 hr1 hc1 h1 h2 h3 h4 h5 rfl
 ·rw [if_neg hc] at h;exact absurd h (by simp)
end Go.Proofs.YtiioklboaookiaaGreatDoor.Hand
namespace Go.Proofs.YtiioklboaookiaaGreatDoor.Hand
open Go.RowKit Go.Proofs.YtiioklboaookiaaGreatDoorW.PrintWords Go.Proofs.YtiioklboaookiaaGreatDoorW.PrintLast Go.Proofs.YtiioklboaookiaaGreatDoorW.PrintMore
open Rs (xt pw_bd lg_pw pw_lg pw_mod)
attribute [local go_sem] max2_int min2_int max_two min_two max_three min_three max_four min_four
set_option linter.unusedVariables false
set_option linter.unusedSimpArgs false
theorem xor_nat (k:IntKind) (j:Nat) (hj:j≤k.bits) (hk:∀ n:Int,0≤n→n<2 ^ j→k.wrap n=n) (a b:Nat) (ha:a<2 ^ j) (hb:b<2 ^ j) :
  Go.bits .xor k a b=((a ^^^ b:Nat):Int):=by
 have hp:2 ^ j≤2 ^ k.bits:=Nat.pow_le_pow_right (by decide) hj
 have ha' : a % 2 ^ k.bits=a:=Nat.mod_eq_of_lt (Nat.lt_of_lt_of_le ha hp)
 have hb' : b % 2 ^ k.bits=b:=Nat.mod_eq_of_lt (Nat.lt_of_lt_of_le hb hp)
 have cast:∀ n:Nat,n<2 ^ j→((n:Nat):Int)<2 ^ j:=fun n h=>by exact_mod_cast h
 simp only [Go.bits,BitVec.ofInt_natCast,BitVec.toNat_xor,BitVec.toNat_ofNat,ha',hb']
 exact hk _ (Int.natCast_nonneg _) (cast _ (Nat.xor_lt_two_pow ha hb))
theorem xor8 (a b:Nat) (ha:a<256) (hb:b<256):Go.bits .xor .u8 (a:Int) (b:Int)=((a ^^^ b:Nat):Int):=xor_nat .u8 8 (by decide) wraps_u8 a b ha hb
theorem xor_in8 {x y:Int} (hx:in8 x=true) (hy:in8 y=true):in8 (Go.bits .xor .u8 x y)=true:=by
 obtain ⟨a,rfl,ha⟩:=in8_nat hx
 obtain ⟨b,rfl,hb⟩:=in8_nat hy
 rw [xor8 a b ha hb]
 have:a ^^^ b<256:=Nat.xor_lt_two_pow (n:=8) ha hb
 exact decide_eq_true (by omega)
theorem bytesB_set {l:List Int} (h:bytesB l=true) (i:Nat) {v:Int} (hv:in8 v=true):bytesB (l.set i v)=true:=by
 refine List.all_eq_true.2 fun x hx=>?_
 rcases List.mem_or_eq_of_mem_set hx with h1|h1
 ·exact List.all_eq_true.1 h x h1
 ·rw [h1];exact hv
theorem bytesB_append {l m:List Int} (h:bytesB l=true) (h' : bytesB m=true):bytesB (l++m)=true:=by unfold bytesB;rw [List.all_append,show l.all in8=true from h,show m.all in8=true from h'];rfl
theorem bytesB_zeros (n:Nat):bytesB (List.replicate n 0)=true:=List.all_eq_true.2 fun x hx=>by rw [(List.mem_replicate.1 hx).2];rfl
theorem bytesB_bytesOf (s:ByteArray):bytesB (bytesOf s)=true:=List.all_eq_true.2 fun x hx=>by
 obtain ⟨b,_,rfl⟩:=List.mem_map.1 hx
 exact decide_eq_true (by have:=b.toNat_lt;omega)
section
variable {P:Program} {ops:Array Oper} {rest:List Oper} {o:Oper} {a:Act} {Q:Exit→Act→World→Prop}
theorem R_copy_str {w0 W:World} (base:Nat) (hgd:o.guard=none) (s x:Operand) (t t' e:TypeId)
  (ho:o.op=.call { callee:=.builtin .copy,args:=#[s,x],argTypes:=#[t,t'] }) (ht:P.underlying t=some (.slice e)) (hinfo:(P.info? e).map (·.size)=some 1)
  (v:Value) (xs:List Int) (y:ByteArray) (ok:Nat→Prop) (hs:a.eval s=v) (hx:a.eval x=.string y)
  (HO:(Kd.int .u8).R e W base ok v xs) (hl:y.size≤xs.length) (HB:Below base w0 W) (hbase:base≤W.heap.size)
  (h:∀ w1,(Kd.int .u8).R e w1 base ok v (bytesOf y++xs.drop y.size)→Below base w0 w1→wpList P ops Q rest (a.put o.dst (.int .i64 (y.size:Int))) w1) :
  wpList P ops Q (o::rest) a W:=by
 have hown:=Kd.own_of_R (enc:=Value.int .u8) (h1:=fun _=>rfl) HO
 have fin:∀ w1,(Builtin.copy_ #[t,t'] o.type #[v,.string y]).run P W=.ok (goInt (y.size:Int)) w1→(Kd.int .u8).R e w1 base ok v (bytesOf y++xs.drop y.size)→Below base w0 w1→wpList P ops Q (o::rest) a W:=by
  intro w1 hr hrow hb
  refine wpList_plain hgd fun K hK=>?_
  unfold Oper.wp execOp
  simp only [ho,resolve,invoke,builtin,Sem.run_bind,Sem.run_pure,Result.andThen_ok,List.map_toArray,List.map_cons,List.map_nil,hs,hx,hr]
  exact hK _ _ (h w1 hrow hb)
 rcases hown.2 with ⟨hv,h0⟩ | ⟨g,cap,cur,hv,hb,hh,hnc,hcm,hcs,htake⟩
 ·refine fin W ?_ ?_ HB
  ·rw [hv,show y.size=0 from by omega]
   exact Lib.run_copy_empty_string W t t' o.type e _ _ _ y ht (by rw [hinfo];rfl) (by omega)
  ·have e0:bytesOf y=[]:=List.eq_nil_of_length_eq_zero (by rw [bytesOf_length];omega)
   rw [e0,show y.size=0 from by omega];exact HO
 ·have hr:=Lib.run_copy_row_string (P:=P) W t t' o.type e g 0 xs.length cap y cur e ht hinfo hh hl (by omega)
  have hnew:bytesOf y++xs.drop y.size=bytesOf y++xs.drop y.size:=rfl
  refine fin _ (by rw [hv];exact hr) ?_ (below_setRow HB hb _)
  refine Kd.R_of_own (h1:=fun _=>rfl) ?_ HO.1
  have hbl:(bytesOf y).length=y.size:=bytesOf_length y
  have hlen:(bytesOf y++xs.drop y.size).length=xs.length:=by rw [List.length_append,List.length_drop,hbl];omega
  rw [hlen]
  have hbc:(Lib.byteCells y.data.toList).length=y.size:=by rw [Lib.byteCells_length,← Lib.size_eq]
  refine ⟨by rw [encs_length,hlen,Nat.mul_one],.inr ⟨g,cap,_,hv,hb,setRow_heap W g cur _ e _ hh,hnc,hcm,?_,?_⟩⟩
  ·simp only [List.size_toArray,List.length_append,List.length_take,List.length_drop,hbc,Array.length_toList]
   omega
  ·rw [Nat.mul_one] at htake ⊢
   simp only [List.take_zero,List.nil_append,Nat.zero_add]
   rw [List.take_append,hbc,List.take_of_length_le (by rw [hbc];exact hl),encs_append]
   congr 1
   ·simp only [encs,bytesOf,Lib.byteCells,List.map_map];rfl
   ·have:encs (Value.int .u8) (xs.drop y.size)=(encs (Value.int .u8) xs).drop y.size:=by simp [encs,List.map_drop]
    rw [this,← htake,List.drop_take]
end
theorem strOfNums_size (l:List Int):(strOfNums l).size=l.length:=by show ((l.map fun n=>UInt8.ofNat n.toNat).toArray).size=_;simp
end Go.Proofs.YtiioklboaookiaaGreatDoor.Hand
namespace Go.Proofs.YtiioklboaookiaaGreatDoor.Hand
open Go.RowKit Go.Proofs.YtiioklboaookiaaGreatDoorW.PrintWords Go.Proofs.YtiioklboaookiaaGreatDoorW.PrintLast Go.Proofs.YtiioklboaookiaaGreatDoorW.PrintMore
open Rs (xt pw_bd lg_pw pw_lg pw_mod)
attribute [local go_sem] max2_int min2_int max_two min_two max_three min_three max_four min_four
set_option linter.unusedVariables false
set_option linter.unusedSimpArgs false
def spL (n:Int):List Int→List Int→Option (List Int)
 | [],out=>some out
 | i::l,out=>if i<0∨n≤i then none else if i ∈ out then spL n l out else spL n l (out++[i])
def label_spots.f (l0:List Int) (a1:Int):Option (List Int × Bool) :=
 if (l0.length:Int) > 255 then some ([],false) else if 0≤a1∧a1≤255 then
  (match spL a1 l0 [] with
   | none=>some ([],false)
   | some out=>some (out,true)) else none
def SeenB (b:Nat) (out:List Int) (w:World):Prop:=∃ C:Array Value,w.heap[b]?=some (.cells C 197 (0,0))∧∀ j:Nat,j<255→C[j]?=some (.bool (decide ((j:Int) ∈ out)))
theorem SeenB.cell {b:Nat} {out:List Int} {w:World} (h:SeenB b out w) (j:Nat) (hj:j<255):w.cell? ⟨b,j,none⟩=some (.bool (decide ((j:Int) ∈ out))):=by
 obtain ⟨C,h1,h2⟩:=h;simp [World.cell?,h1,h2 j hj]
theorem SeenB.put {b:Nat} {out:List Int} {w:World} (h:SeenB b out w) (j:Nat) (hj:j<255):SeenB b (out++[(j:Int)]) (w.setCell ⟨b,j,none⟩ (.bool true)):=by
 obtain ⟨C,h1,h2⟩:=h
 refine ⟨C.setIfInBounds j (.bool true),blk_set h1 j _,fun k hk=>?_⟩
 have hs:j<C.size:=lt_of_some (h2 j hj)
 rw [Array.getElem?_setIfInBounds]
 by_cases e:j=k
 ·subst e;simp [hs]
 ·rw [if_neg e,h2 k hk]
  congr 2
  simp only [List.mem_append,List.mem_singleton,decide_eq_decide]
  constructor
  ·exact .inl
  ·rintro (h|h)
   ·exact h
   ·omega
theorem SeenB.drew {b:Nat} {out:List Int} {w:World} (h:SeenB b out w):SeenB b out w.drew:=h
theorem SeenB.step {b:Nat} {out:List Int} {w w1:World} (h:SeenB b out w) (he:w1.heap[b]?=w.heap[b]?):SeenB b out w1:=by obtain ⟨C,h1,h2⟩:=h;exact ⟨C,he.trans h1,h2⟩
theorem SeenB.lt {b:Nat} {out:List Int} {w:World} (h:SeenB b out w):b<w.heap.size:=by obtain ⟨C,h1,h2⟩:=h;exact lt_of_some h1
theorem SeenB.ne {b:Nat} {out xs:List Int} {w:World} {base:Nat} {ok:Nat→Prop} {v:Value} (h:SeenB b out w) (hr:Kd.R (Kd.int .i64) 3 w base ok v xs):some b≠v.ownBlock:=by
 obtain ⟨C,h1,h2⟩:=h;exact Kd.R_ne hr h1 (by decide)
theorem zeroBool (w:World):(zeroValue 4).run Tryz.prog w=.ok (.bool false) w:=by kernel_rfl
theorem plainElem_bool_inv {H:Type} {P:Program} {e:TypeId} (he:P.underlying e=some .bool) {v:Value} {z:DataW H × List MemPlace} (h:plainElem P e v=some z):∃ c,v=.bool c∧z=(.lit (.bool c),[]):=by
 cases v with
 | bool c=>rw [plainElem_bool he] at h;exact ⟨c,rfl,(Option.some.inj h).symm⟩
 | _=>simp [plainElem,he] at h
def MapIs (b n:Nat) (l:List Int) (w:World):Prop:=∃ D:DataW Unit,w.ownsMap Tryz.prog 3 (plainElem Tryz.prog 4) b n D∧Maps.IsMap D∧∀ x:Int,D.atKey (.int .i64 x) (.lit (.bool false))=.lit (.bool (decide (x ∈ l)))
set_option maxRecDepth 100000 in
theorem MapIs.look {b n:Nat} {l:List Int} {w:World} (h:MapIs b n l w) (x:Int) (hx:(Lit.int .i64 x).wf=true) :
  (Instr.lookup 107 (.map (some b)) (.int .i64 x) false).run Tryz.prog w=.ok (.bool (decide (x ∈ l))) w:=by
 obtain ⟨D,h1,h2,h3⟩:=h
 obtain ⟨v,ps,hr,hv⟩:=h1.lookup (Maps.int_keyed Tryz.underlying3) Tryz.underlying107 (zeroBool w) (plainElem_bool Tryz.underlying4 false) (Maps.keyOf_int_mk Tryz.underlying3 hx)
 obtain ⟨c,rfl,hc⟩:=plainElem_bool_inv Tryz.underlying4 hv
 have h4:=h3 x
 rw [(Prod.mk.inj hc).1] at h4
 injection h4 with h4
 injection h4 with h4
 rw [hr,h4]
theorem MapIs.put {b n:Nat} {l:List Int} {D:DataW Unit} {w' : World} (h2:Maps.IsMap D) (h3:∀ x:Int,D.atKey (.int .i64 x) (.lit (.bool false))=.lit (.bool (decide (x ∈ l)))) (x:Int)
  (h1:w'.ownsMap Tryz.prog 3 (plainElem Tryz.prog 4) b n (D.put (.int .i64 x) (.lit (.bool true)))):MapIs b n (l++[x]) w':=by
 refine ⟨_,h1,h2.put _ _,fun y=>?_⟩
 by_cases e:y=x
 ·subst e;rw [Maps.atKey_put_same (k:=.int .i64 y) h2 trivial];simp
 ·rw [Maps.atKey_put_other (fun h=>e (by injection h)),h3 y]
  simp [e]
theorem MapIs.drewN {b n:Nat} {l:List Int} {w:World} (h:MapIs b n l w) (m:Nat):MapIs b n l (w.drewN m):=by
 obtain ⟨D,h1,h2,h3⟩:=h
 exact ⟨D,h1,h2,h3⟩
def chg (b lost:List Int):List Int→Nat→Int→Int→Int × Int
 | [],_,al,ot=>(al,ot)
 | x::a,i,al,ot=>if x=rd b i then chg b lost a (i+1) al ot else if (i:Int) ∈ lost then chg b lost a (i+1) (al+1) ot else chg b lost a (i+1) (al+1) (ot+1)
def smallB (l:List Int):Bool:=l.all fun x=>decide (0≤x∧x<100000)
def label_changes.f (l0 l1 l2:List Int):Option (Int × Int) :=
 if l0.length≤l1.length∧(l0.length:Int)≤100000∧(l2.length:Int)≤100000∧smallB l2=true then some (chg l1 l2 l0 0 0 0) else none
end Go.Proofs.YtiioklboaookiaaGreatDoor.Hand
namespace Go.Proofs.YtiioklboaookiaaGreatDoor.Q
open Go.RowKit Go.Proofs.YtiioklboaookiaaGreatDoorW.PrintWords Go.Proofs.YtiioklboaookiaaGreatDoorW.PrintLast Go.Proofs.YtiioklboaookiaaGreatDoor.Hand Go.Proofs.YtiioklboaookiaaGreatDoorW.PrintMore
attribute [local go_sem] max2_int min2_int max_two min_two max_three min_three max_four min_four
set_option linter.unusedVariables false
set_option linter.unusedSimpArgs false
def errW:Option Int→Value
 | none=>.nilIface
 | some c=>.iface 0 (.int .i64 c)
theorem errW_none:errW none=.nilIface:=rfl
theorem errW_some (c:Int):errW (some c)=.iface 0 (.int .i64 c):=rfl
theorem info159:(Tryz.prog.info? 159).map (fun i=>(i.zero,i.size,i.bytes))=some (some (.agg #[(.int .i64 0),(.int .i64 0)]),2,16):=by kernel_rfl
structure S76 where
 f0:Int
 f1:Int
 f2:Int
def z76:S76:=⟨(0:Int),(0:Int),(0:Int)⟩
def k76:Kd S76:=Kd.iso (Kd.pair (Kd.int .i64) (Kd.pair (Kd.int .i64) (Kd.int .i64))) (fun x:S76=>(x.f0,x.f1,x.f2))
theorem k76_open {w:World} {x:S76} {cs:List Value} (h:k76.K w x cs):cs=[.int .i64 x.f0,.int .i64 x.f1,.int .i64 x.f2]:=by
 obtain ⟨_,_,rfl,rfl,⟨_,_,rfl,rfl,rfl⟩⟩:=h
 exact rfl
theorem k76_mk (w:World) (x:S76)  : k76.K w x [.int .i64 x.f0,.int .i64 x.f1,.int .i64 x.f2]:=⟨[.int .i64 x.f0],[.int .i64 x.f1,.int .i64 x.f2],rfl,rfl,⟨[.int .i64 x.f1],[.int .i64 x.f2],rfl,rfl,rfl⟩⟩
theorem k76_mkM (w:World) (base:Nat) (ok:Nat→Prop) (x:S76)  : k76.M w base ok x [.int .i64 x.f0,.int .i64 x.f1,.int .i64 x.f2]:=⟨[.int .i64 x.f0],[.int .i64 x.f1,.int .i64 x.f2],rfl,rfl,⟨[.int .i64 x.f1],[.int .i64 x.f2],rfl,rfl,rfl⟩⟩
def rd_T76 (xs:List S76) (i:Int):S76:=xs.getD i.toNat z76
theorem at_T76 {w:World} {A:Option Addr} {n:Nat} {xs:List S76} (h:Kd.C k76 w A n xs) (i:Int) (h0:0≤i) (h1:i<n):∃ ad ,A=some ad∧w.cell? (ad.add (i.toNat*3))=some (.int .i64 (rd_T76 xs i).f0)∧w.cell? ⟨(ad.add (i.toNat*3)).block,(ad.add (i.toNat*3)).off+1,none⟩=some (.int .i64 (rd_T76 xs i).f1)∧w.cell? ⟨(ad.add (i.toNat*3)).block,(ad.add (i.toNat*3)).off+2,none⟩=some (.int .i64 (rd_T76 xs i).f2):=by
 obtain ⟨ad,c,e,_,hK,hc0⟩:=Kd.C_get h z76 i h0 h1
 have hc:∀ j u,c[j]?=some u→w.cell? (ad.add (i.toNat*3+j))=some u:=hc0
 obtain rfl:=k76_open hK
 exact ⟨ad,e,hc 0 _ rfl,by rw [← add_field _ _ 1 (by omega)];exact hc 1 _ rfl,by rw [← add_field _ _ 2 (by omega)];exact hc 2 _ rfl⟩
structure S34 where
 f0:Int
 f1:Int
def z34:S34:=⟨(0:Int),(0:Int)⟩
def k34:Kd S34:=Kd.iso (Kd.pair (Kd.int .i64) (Kd.int .i64)) (fun x:S34=>(x.f0,x.f1))
theorem k34_open {w:World} {x:S34} {cs:List Value} (h:k34.K w x cs):cs=[.int .i64 x.f0,.int .i64 x.f1]:=by
 obtain ⟨_,_,rfl,rfl,rfl⟩:=h
 exact rfl
theorem k34_mkM (w:World) (base:Nat) (ok:Nat→Prop) (x:S34)  : k34.M w base ok x [.int .i64 x.f0,.int .i64 x.f1]:=⟨[.int .i64 x.f0],[.int .i64 x.f1],rfl,rfl,rfl⟩
def rd_T34 (xs:List S34) (i:Int):S34:=xs.getD i.toNat z34
theorem at_T34 {w:World} {A:Option Addr} {n:Nat} {xs:List S34} (h:Kd.C k34 w A n xs) (i:Int) (h0:0≤i) (h1:i<n):∃ ad ,A=some ad∧w.cell? (ad.add (i.toNat*2))=some (.int .i64 (rd_T34 xs i).f0)∧w.cell? ⟨(ad.add (i.toNat*2)).block,(ad.add (i.toNat*2)).off+1,none⟩=some (.int .i64 (rd_T34 xs i).f1):=by
 obtain ⟨ad,c,e,_,hK,hc0⟩:=Kd.C_get h z34 i h0 h1
 have hc:∀ j u,c[j]?=some u→w.cell? (ad.add (i.toNat*2+j))=some u:=hc0
 obtain rfl:=k34_open hK
 exact ⟨ad,e,hc 0 _ rfl,by rw [← add_field _ _ 1 (by omega)];exact hc 1 _ rfl⟩
def rd_L3 (xs:List (List S34)) (i:Int):(List S34):=xs.getD i.toNat ([]:List S34)
structure S46 where
 f0:Int
 f1:Int
 f2:Int
def z46:S46:=⟨(0:Int),(0:Int),(0:Int)⟩
structure S159 where
 f0:Int
 f1:Int
def z159:S159:=⟨(0:Int),(0:Int)⟩
def k159:Kd S159:=Kd.iso (Kd.pair (Kd.int .i64) (Kd.int .i64)) (fun x:S159=>(x.f0,x.f1))
theorem k159_open {w:World} {x:S159} {cs:List Value} (h:k159.K w x cs):cs=[.int .i64 x.f0,.int .i64 x.f1]:=by
 obtain ⟨_,_,rfl,rfl,rfl⟩:=h
 exact rfl
theorem k159_openM {w:World} {base:Nat} {ok:Nat→Prop} {x:S159} {cs:List Value} (h:k159.M w base ok x cs):cs=[.int .i64 x.f0,.int .i64 x.f1]:=by
 obtain ⟨_,_,rfl,rfl,rfl⟩:=h
 exact rfl
theorem k159_mkM (w:World) (base:Nat) (ok:Nat→Prop) (x:S159)  : k159.M w base ok x [.int .i64 x.f0,.int .i64 x.f1]:=⟨[.int .i64 x.f0],[.int .i64 x.f1],rfl,rfl,rfl⟩
def rd_T159 (xs:List S159) (i:Int):S159:=xs.getD i.toNat z159
theorem at_T159 {w:World} {A:Option Addr} {n:Nat} {xs:List S159} (h:Kd.C k159 w A n xs) (i:Int) (h0:0≤i) (h1:i<n):∃ ad ,A=some ad∧w.cell? (ad.add (i.toNat*2))=some (.int .i64 (rd_T159 xs i).f0)∧w.cell? ⟨(ad.add (i.toNat*2)).block,(ad.add (i.toNat*2)).off+1,none⟩=some (.int .i64 (rd_T159 xs i).f1):=by
 obtain ⟨ad,c,e,_,hK,hc0⟩:=Kd.C_get h z159 i h0 h1
 have hc:∀ j u,c[j]?=some u→w.cell? (ad.add (i.toNat*2+j))=some u:=hc0
 obtain rfl:=k159_open hK
 exact ⟨ad,e,hc 0 _ rfl,by rw [← add_field _ _ 1 (by omega)];exact hc 1 _ rfl⟩
structure S67 where
 f0:Int
 f1:Int
 f2:Int
 f3:Int
 f4:Int
def z67:S67:=⟨(0:Int),(0:Int),(0:Int),(0:Int),(0:Int)⟩
def k67:Kd S67:=Kd.iso (Kd.pair (Kd.int .i64) (Kd.pair (Kd.int .i64) (Kd.pair (Kd.int .i64) (Kd.pair (Kd.int .i64) (Kd.int .i64))))) (fun x:S67=>(x.f0,x.f1,x.f2,x.f3,x.f4))
theorem k67_open {w:World} {x:S67} {cs:List Value} (h:k67.K w x cs):cs=[.int .i64 x.f0,.int .i64 x.f1,.int .i64 x.f2,.int .i64 x.f3,.int .i64 x.f4]:=by
 obtain ⟨_,_,rfl,rfl,⟨_,_,rfl,rfl,⟨_,_,rfl,rfl,⟨_,_,rfl,rfl,rfl⟩⟩⟩⟩:=h
 exact rfl
theorem k67_openM {w:World} {base:Nat} {ok:Nat→Prop} {x:S67} {cs:List Value} (h:k67.M w base ok x cs):cs=[.int .i64 x.f0,.int .i64 x.f1,.int .i64 x.f2,.int .i64 x.f3,.int .i64 x.f4]:=by
 obtain ⟨_,_,rfl,rfl,⟨_,_,rfl,rfl,⟨_,_,rfl,rfl,⟨_,_,rfl,rfl,rfl⟩⟩⟩⟩:=h
 exact rfl
theorem k67_mkM (w:World) (base:Nat) (ok:Nat→Prop) (x:S67)  : k67.M w base ok x [.int .i64 x.f0,.int .i64 x.f1,.int .i64 x.f2,.int .i64 x.f3,.int .i64 x.f4]:=⟨[.int .i64 x.f0],[.int .i64 x.f1,.int .i64 x.f2,.int .i64 x.f3,.int .i64 x.f4],rfl,rfl,⟨[.int .i64 x.f1],[.int .i64 x.f2,.int .i64 x.f3,.int .i64 x.f4],rfl,rfl,⟨[.int .i64 x.f2],[.int .i64 x.f3,.int .i64 x.f4],rfl,rfl,⟨[.int .i64 x.f3],[.int .i64 x.f4],rfl,rfl,rfl⟩⟩⟩⟩
def rd_T67 (xs:List S67) (i:Int):S67:=xs.getD i.toNat z67
theorem at_T67 {w:World} {A:Option Addr} {n:Nat} {xs:List S67} (h:Kd.C k67 w A n xs) (i:Int) (h0:0≤i) (h1:i<n):∃ ad ,A=some ad∧w.cell? (ad.add (i.toNat*5))=some (.int .i64 (rd_T67 xs i).f0)∧w.cell? ⟨(ad.add (i.toNat*5)).block,(ad.add (i.toNat*5)).off+1,none⟩=some (.int .i64 (rd_T67 xs i).f1)∧w.cell? ⟨(ad.add (i.toNat*5)).block,(ad.add (i.toNat*5)).off+2,none⟩=some (.int .i64 (rd_T67 xs i).f2)∧w.cell? ⟨(ad.add (i.toNat*5)).block,(ad.add (i.toNat*5)).off+3,none⟩=some (.int .i64 (rd_T67 xs i).f3)∧w.cell? ⟨(ad.add (i.toNat*5)).block,(ad.add (i.toNat*5)).off+4,none⟩=some (.int .i64 (rd_T67 xs i).f4):=by
 obtain ⟨ad,c,e,_,hK,hc0⟩:=Kd.C_get h z67 i h0 h1
 have hc:∀ j u,c[j]?=some u→w.cell? (ad.add (i.toNat*5+j))=some u:=hc0
 obtain rfl:=k67_open hK
 exact ⟨ad,e,hc 0 _ rfl,by rw [← add_field _ _ 1 (by omega)];exact hc 1 _ rfl,by rw [← add_field _ _ 2 (by omega)];exact hc 2 _ rfl,by rw [← add_field _ _ 3 (by omega)];exact hc 3 _ rfl,by rw [← add_field _ _ 4 (by omega)];exact hc 4 _ rfl⟩
end Go.Proofs.YtiioklboaookiaaGreatDoor.Q
namespace Go.Proofs.YtiioklboaookiaaGreatDoor.Q
open Go.RowKit Go.Proofs.YtiioklboaookiaaGreatDoorW.PrintWords Go.Proofs.YtiioklboaookiaaGreatDoorW.PrintLast Go.Proofs.YtiioklboaookiaaGreatDoor.Hand Go.Proofs.YtiioklboaookiaaGreatDoorW.PrintMore
attribute [local go_sem] max2_int min2_int max_two min_two max_three min_three max_four min_four
set_option linter.unusedVariables false
set_option linter.unusedSimpArgs false
def carve_within.f (a0:Int) (a1:Int) (a2:Int):Option (Bool):=if a0 ≥ a1 then (some (decide (a0≤a2))) else (some false)
set_option maxHeartbeats 8000000 in
set_option maxRecDepth 100000 in
theorem carve_within.calls (a0:Int) (a1:Int) (a2:Int) (r:Bool) (w:World) (h:carve_within.f a0 a1 a2=some r) :
  Calls Tryz.prog 49 #[.int .i64 a0,.int .i64 a1,.int .i64 a2] w fun e w'=>e=.returned (.bool r)∧Drawn0 w w':=by
 have H:(if a0 ≥ a1 then (some (decide (a0≤a2))) else (some false))=some r:=h
 clear h
 by_cases c4:a0 ≥ a1
 ·rw [if_pos c4] at H
  have c4b0:decide (a1≤a0)=true:=decide_eq_true c4
  clear c4
  obtain rfl:=Option.some.inj H
  go_enter Tryz.func49,Tryz.ntmps49
  go_wp2
  go_ret
  exact ⟨by first|rfl|(simp;done)|(simp [*];done),by repeat (first|exact Drawn0.refl _|apply Drawn0.step)⟩
 ·rw [if_neg c4] at H
  have c4b0:decide (a1≤a0)=false:=decide_eq_false c4
  clear c4
  obtain rfl:=Option.some.inj H
  go_enter Tryz.func49,Tryz.ntmps49
  go_wp2
  go_ret
  exact ⟨by first|rfl|(simp;done)|(simp [*];done),by repeat (first|exact Drawn0.refl _|apply Drawn0.step)⟩
end Go.Proofs.YtiioklboaookiaaGreatDoor.Q
namespace Go.Proofs.YtiioklboaookiaaGreatDoor.Q
open Go.RowKit Go.Proofs.YtiioklboaookiaaGreatDoorW.PrintWords Go.Proofs.YtiioklboaookiaaGreatDoorW.PrintLast Go.Proofs.YtiioklboaookiaaGreatDoor.Hand Go.Proofs.YtiioklboaookiaaGreatDoorW.PrintMore
attribute [local go_sem] max2_int min2_int max_two min_two max_three min_three max_four min_four
set_option linter.unusedVariables false
set_option linter.unusedSimpArgs false
def carve_steps.l0:Nat→List (S34)→List (List (S34))→Int→Int→Option ((List (S34)))
 | 0,_,_,_,_=>none
 | k+1,x5,x10,x11,x12=>if x12<x11 then (if 0≤x12 then (if x12<(x10.length:Int) then (if x5.length+(rd_L3 x10 x12).length<8796093022208 then (carve_steps.l0 k (x5++(rd_L3 x10 x12)) x10 x11 (wrap64 (x12+1))) else (none)) else (none)) else (none)) else (some x5)
def carve_steps.f (k:Nat) (a0_0:Int) (a0_1:Int) (l1:List (List (S34))):Option ((List (S34))):=carve_steps.l0 k (([(⟨a0_0,a0_1⟩:S34)]:List (S34))) l1 (l1.length:Int) 0
theorem carve_steps.mono_l:∀ k,(∀ y0 y1 y2 y3,LeO (carve_steps.l0 k y0 y1 y2 y3) (carve_steps.l0 (k+1) y0 y1 y2 y3))
 | 0=>fun _ _ _ _ r h=>by simp [carve_steps.l0] at h
 | k+1=>by
  have ih0:=carve_steps.mono_l k
  ·intro y0 y1 y2 y3
   unfold carve_steps.l0
   repeat' first
   | (with_reducible exact ih0 _ _ _ _)
   | (with_reducible exact LeO.refl _)
   | (with_reducible exact LeO.none _)
   | (with_reducible refine LeO.ite ?_ ?_)
   | (with_reducible refine LeO.bind ?_ (fun _=>?_))
   | exact ih0 _ _ _ _
   | exact LeO.none _
   | refine LeO.ite ?_ ?_
   | refine LeO.bind ?_ (fun _=>?_)
theorem carve_steps.mono:∀ a0 a1 a2 k,LeO (carve_steps.f k a0 a1 a2) (carve_steps.f (k+1) a0 a1 a2):=by
 intro a0 a1 a2 k
 have ih0:=carve_steps.mono_l k
 unfold carve_steps.f
 repeat' first
   | (with_reducible exact ih0 _ _ _ _)
   | (with_reducible exact LeO.refl _)
   | (with_reducible exact LeO.none _)
   | (with_reducible refine LeO.ite ?_ ?_)
   | (with_reducible refine LeO.bind ?_ (fun _=>?_))
   | exact ih0 _ _ _ _
   | exact LeO.none _
   | refine LeO.ite ?_ ?_
   | refine LeO.bind ?_ (fun _=>?_)
end Go.Proofs.YtiioklboaookiaaGreatDoor.Q
namespace Go.Proofs.YtiioklboaookiaaGreatDoor.Q
open Go.RowKit Go.Proofs.YtiioklboaookiaaGreatDoorW.PrintWords Go.Proofs.YtiioklboaookiaaGreatDoorW.PrintLast Go.Proofs.YtiioklboaookiaaGreatDoor.Hand Go.Proofs.YtiioklboaookiaaGreatDoorW.PrintMore
attribute [local go_sem] max2_int min2_int max_two min_two max_three min_three max_four min_four
set_option linter.unusedVariables false
set_option linter.unusedSimpArgs false
def plane_within.f (a0:Int) (a1:Int) (a2:Int):Option (Bool):=if a0 ≥ a1 then (some (decide (a0≤a2))) else (some false)
set_option maxHeartbeats 8000000 in
set_option maxRecDepth 100000 in
theorem plane_within.calls (a0:Int) (a1:Int) (a2:Int) (r:Bool) (w:World) (h:plane_within.f a0 a1 a2=some r) :
  Calls Tryz.prog 113 #[.int .i64 a0,.int .i64 a1,.int .i64 a2] w fun e w'=>e=.returned (.bool r)∧Drawn0 w w':=by
 have H:(if a0 ≥ a1 then (some (decide (a0≤a2))) else (some false))=some r:=h
 clear h
 by_cases c4:a0 ≥ a1
 ·rw [if_pos c4] at H
  have c4b0:decide (a1≤a0)=true:=decide_eq_true c4
  clear c4
  obtain rfl:=Option.some.inj H
  go_enter Tryz.func113,Tryz.ntmps113
  go_wp2
  go_ret
  exact ⟨by first|rfl|(simp;done)|(simp [*];done),by repeat (first|exact Drawn0.refl _|apply Drawn0.step)⟩
 ·rw [if_neg c4] at H
  have c4b0:decide (a1≤a0)=false:=decide_eq_false c4
  clear c4
  obtain rfl:=Option.some.inj H
  go_enter Tryz.func113,Tryz.ntmps113
  go_wp2
  go_ret
  exact ⟨by first|rfl|(simp;done)|(simp [*];done),by repeat (first|exact Drawn0.refl _|apply Drawn0.step)⟩
def plane_valid.f (a0_0:Int) (a0_1:Int):Option (Bool):=(plane_within.f a0_0 (-4096) 4096).bind fun t384=>(if t384=true then ((plane_within.f a0_1 (-4096) 4096).bind fun t385=>(some t385)) else (some false))
set_option maxHeartbeats 8000000 in
set_option maxRecDepth 100000 in
theorem plane_valid.calls (a0_0:Int) (a0_1:Int) (r:Bool) (w:World) (h:plane_valid.f a0_0 a0_1=some r) :
  Calls Tryz.prog 127 #[.agg #[.int .i64 a0_0,.int .i64 a0_1]] w fun e w'=>e=.returned (.bool r)∧Below w.heap.size w w':=by
 have hu159:=Tryz.underlying159
 have HB:=Aside0.mk (Below.refl w.heap.size w)
 have H:((plane_within.f a0_0 (-4096) 4096).bind fun t384=>(if t384=true then ((plane_within.f a0_1 (-4096) 4096).bind fun t385=>(some t385)) else (some false)))=some r:=h
 clear h
 replace H:=Option.bind_eq_some_iff.mp H
 obtain ⟨t384,A20,H⟩:=H
 replace H:(if t384=true then ((plane_within.f a0_1 (-4096) 4096).bind fun t385=>(some t385)) else (some false))=some r:=H
 have A2:=Aside0.mk A20;(try simp only [Int.toNat_natCast] at A2)
 clear A20
 by_cases c3:t384=true
 ·subst c3
  have H1:((plane_within.f a0_1 (-4096) 4096).bind fun t385=>(some t385))=some r:=by rw [if_pos rfl] at H;exact H
  clear H
  have H:=H1
  clear H1
  replace H:=Option.bind_eq_some_iff.mp H
  obtain ⟨t385,A40,H⟩:=H
  replace H:(some t385)=some r:=H
  have A4:=Aside0.mk A40;(try simp only [Int.toNat_natCast] at A4)
  clear A40
  obtain rfl:=Option.some.inj H
  go_enter Tryz.func127,Tryz.ntmps127
  go_wp2_with (first|((with_reducible refine gate_dst (N:=1) rfl ?_);refine box_event ?hg (N:=1) ?hd (cs:=#[.int .i64 a0_0,.int .i64 a0_1]) (t:=159) ?hr ?_;(case hd=>rfl);(case hg=>rfl);(case hr=>first|(go_simp;done)|(go_simp;rfl));intro gb383 hg w5 hbox hb;have n0_:=Aside0.mk (below_step (by repeat (first|(with_reducible first|exact HB.out|apply below_alloc|apply pw_below_drewN|apply below_drew1)|exact HB.out)) hb);have n1_:=Aside0.mk (hbox);have n2_:=Aside0.mk ((by rw [hg];exact (below_size (by repeat (first|(with_reducible first|exact HB.out|apply below_alloc|apply pw_below_drewN|apply below_drew1)|exact HB.out))):w.heap.size≤gb383));have n3_:=Aside0.mk ((by rw [hg];exact (below_size (by repeat (first|(with_reducible first|exact HB.out|apply below_alloc|apply pw_below_drewN|apply below_drew1)|exact HB.out))):w.heap.size≤gb383));clear HB;have HB:=n0_;have BK383:=n1_;have GW383:=n2_;have GE383:=n3_;clear n0_ n1_ n2_ n3_;clear hb hbox hg;have hcz6_0:w5.cell? ⟨gb383,0,none⟩=some (.int .i64 a0_0):=(blk_cell BK383.out 0).trans rfl;have hcz6_1:w5.cell? ⟨gb383,1,none⟩=some (.int .i64 a0_1):=(blk_cell BK383.out 1).trans rfl;have hfz6_0:=blk_frozen BK383.out 0;have hfz6_1:=blk_frozen BK383.out 1)|((with_reducible refine gate_callee (f:=113) rfl ?_);refine goesL_ (some 5) rfl rfl Tryz.func113 (by kernel_rfl) rfl #[.int .i64 a0_0,.int .i64 (-4096),.int .i64 4096] rfl (by (try simp only [List.map_toArray,List.map_cons,List.map_nil]);first|done|rfl|(simp only [List.length_drop,List.length_take];rfl)) ?_;(with_reducible refine (plane_within.calls a0_0 (-4096) 4096 true _ A2.out).mono ?_);rintro e w' ⟨rfl,⟨nd,rfl⟩⟩;refine ⟨_,rfl,?_⟩)|(go_at_call 113;(with_reducible refine (plane_within.calls a0_1 (-4096) 4096 t385 _ A4.out).mono ?_);rintro e w' ⟨rfl,⟨nd,rfl⟩⟩))
  go_ret
  exact ⟨by first|rfl|(simp [errW_none,errW_some] <;> rfl)|(simp [*,errW_none,errW_some] <;> rfl),by repeat (first|(with_reducible first|exact HB.out|apply below_alloc|apply pw_below_drewN|apply below_drew1|refine below_set ?_ GE383.out)|exact HB.out)⟩
 ·replace c3:=Bool.eq_false_iff.mpr c3
  subst c3
  have H1:(some false)=some r:=by rw [if_neg (show ¬ (false=true) by decide)] at H;exact H
  clear H
  have H:=H1
  clear H1
  obtain rfl:=Option.some.inj H
  go_enter Tryz.func127,Tryz.ntmps127
  go_wp2_with (first|((with_reducible refine gate_dst (N:=1) rfl ?_);refine box_event ?hg (N:=1) ?hd (cs:=#[.int .i64 a0_0,.int .i64 a0_1]) (t:=159) ?hr ?_;(case hd=>rfl);(case hg=>rfl);(case hr=>first|(go_simp;done)|(go_simp;rfl));intro gb383 hg w7 hbox hb;have n0_:=Aside0.mk (below_step (by repeat (first|(with_reducible first|exact HB.out|apply below_alloc|apply pw_below_drewN|apply below_drew1)|exact HB.out)) hb);have n1_:=Aside0.mk (hbox);have n2_:=Aside0.mk ((by rw [hg];exact (below_size (by repeat (first|(with_reducible first|exact HB.out|apply below_alloc|apply pw_below_drewN|apply below_drew1)|exact HB.out))):w.heap.size≤gb383));have n3_:=Aside0.mk ((by rw [hg];exact (below_size (by repeat (first|(with_reducible first|exact HB.out|apply below_alloc|apply pw_below_drewN|apply below_drew1)|exact HB.out))):w.heap.size≤gb383));clear HB;have HB:=n0_;have BK383:=n1_;have GW383:=n2_;have GE383:=n3_;clear n0_ n1_ n2_ n3_;clear hb hbox hg;have hcz8_0:w7.cell? ⟨gb383,0,none⟩=some (.int .i64 a0_0):=(blk_cell BK383.out 0).trans rfl;have hcz8_1:w7.cell? ⟨gb383,1,none⟩=some (.int .i64 a0_1):=(blk_cell BK383.out 1).trans rfl;have hfz8_0:=blk_frozen BK383.out 0;have hfz8_1:=blk_frozen BK383.out 1)|((with_reducible refine gate_callee (f:=113) rfl ?_);refine goesL_ (some 5) rfl rfl Tryz.func113 (by kernel_rfl) rfl #[.int .i64 a0_0,.int .i64 (-4096),.int .i64 4096] rfl (by (try simp only [List.map_toArray,List.map_cons,List.map_nil]);first|done|rfl|(simp only [List.length_drop,List.length_take];rfl)) ?_;(with_reducible refine (plane_within.calls a0_0 (-4096) 4096 false _ A2.out).mono ?_);rintro e w' ⟨rfl,⟨nd,rfl⟩⟩;refine ⟨_,rfl,?_⟩))
  go_ret
  exact ⟨by first|rfl|(simp [errW_none,errW_some] <;> rfl)|(simp [*,errW_none,errW_some] <;> rfl),by repeat (first|(with_reducible first|exact HB.out|apply below_alloc|apply pw_below_drewN|apply below_drew1|refine below_set ?_ GE383.out)|exact HB.out)⟩
def plane_invalid.f (a0_0:Int) (a0_1:Int):Option (Bool):=(plane_valid.f a0_0 a0_1).bind fun t387=>(some (!t387))
set_option maxHeartbeats 8000000 in
set_option maxRecDepth 100000 in
theorem plane_invalid.calls (a0_0:Int) (a0_1:Int) (r:Bool) (w:World) (h:plane_invalid.f a0_0 a0_1=some r) :
  Calls Tryz.prog 96 #[.agg #[.int .i64 a0_0,.int .i64 a0_1]] w fun e w'=>e=.returned (.bool r)∧Below w.heap.size w w':=by
 have hu159:=Tryz.underlying159
 have HB:=Aside0.mk (Below.refl w.heap.size w)
 have H:((plane_valid.f a0_0 a0_1).bind fun t387=>(some (!t387)))=some r:=h
 clear h
 replace H:=Option.bind_eq_some_iff.mp H
 obtain ⟨t387,A20,H⟩:=H
 replace H:(some (!t387))=some r:=H
 have A2:=Aside0.mk A20;(try simp only [Int.toNat_natCast] at A2)
 clear A20
 obtain rfl:=Option.some.inj H
 go_enter Tryz.func96,Tryz.ntmps96
 go_wp2_with (first|((with_reducible refine gate_dst (N:=1) rfl ?_);refine box_event ?hg (N:=1) ?hd (cs:=#[.int .i64 a0_0,.int .i64 a0_1]) (t:=159) ?hr ?_;(case hd=>rfl);(case hg=>rfl);(case hr=>first|(go_simp;done)|(go_simp;rfl));intro gb386 hg w3 hbox hb;have n0_:=Aside0.mk (below_step (by repeat (first|(with_reducible first|exact HB.out|apply below_alloc|apply pw_below_drewN|apply below_drew1)|exact HB.out)) hb);have n1_:=Aside0.mk (hbox);have n2_:=Aside0.mk ((by rw [hg];exact (below_size (by repeat (first|(with_reducible first|exact HB.out|apply below_alloc|apply pw_below_drewN|apply below_drew1)|exact HB.out))):w.heap.size≤gb386));have n3_:=Aside0.mk ((by rw [hg];exact (below_size (by repeat (first|(with_reducible first|exact HB.out|apply below_alloc|apply pw_below_drewN|apply below_drew1)|exact HB.out))):w.heap.size≤gb386));clear HB;have HB:=n0_;have BK386:=n1_;have GW386:=n2_;have GE386:=n3_;clear n0_ n1_ n2_ n3_;clear hb hbox hg;have hcz4_0:w3.cell? ⟨gb386,0,none⟩=some (.int .i64 a0_0):=(blk_cell BK386.out 0).trans rfl;have hcz4_1:w3.cell? ⟨gb386,1,none⟩=some (.int .i64 a0_1):=(blk_cell BK386.out 1).trans rfl;have hfz4_0:=blk_frozen BK386.out 0;have hfz4_1:=blk_frozen BK386.out 1)|((with_reducible refine gate_callee (f:=127) rfl ?_);refine goesL_ (some 4) rfl rfl Tryz.func127 (by kernel_rfl) rfl #[.agg #[.int .i64 a0_0,.int .i64 a0_1]] rfl (by (try simp only [List.map_toArray,List.map_cons,List.map_nil]);first|done|rfl|(simp only [List.length_drop,List.length_take];rfl)) ?_;(with_reducible refine (plane_valid.calls a0_0 a0_1 t387 _ A2.out).mono ?_);rintro e w5 ⟨rfl,hb⟩;refine ⟨_,rfl,?_⟩;have n0_:=Aside0.mk (blk_below (g:=gb386) (o:=.cells #[.int .i64 a0_0,.int .i64 a0_1] 159 (0,0)) (by (with_reducible repeat (first|refine blk_drewN ?_ _|refine blk_drew ?_|refine blk_alloc ?_ _));exact BK386.out) hb);have n1_:=Aside0.mk (below_step (by repeat (first|(with_reducible first|exact HB.out|apply below_alloc|apply pw_below_drewN|apply below_drew1|refine below_set ?_ GE386.out)|exact HB.out)) hb);clear BK386;clear HB;have BK386:=n0_;have HB:=n1_;clear n0_ n1_;(try clear hb);(try clear hb2);(try clear hk);(try clear hi)))
 go_ret
 exact ⟨by first|rfl|(simp [errW_none,errW_some] <;> rfl)|(simp [*,errW_none,errW_some] <;> rfl),by repeat (first|(with_reducible first|exact HB.out|apply below_alloc|apply pw_below_drewN|apply below_drew1|refine below_set ?_ GE386.out)|exact HB.out)⟩
def plane_area.l0:Nat→List (S159)→Int→List (S159)→Int→Int→Option (Int)
 | 0,_,_,_,_,_=>none
 | k+1,x0,x3,x7,x8,x9=>if x9<x8 then (if 0≤x9 then (if x9<(x7.length:Int) then (if (x0.length:Int)=0 then (none) else (if 0≤(Int.tmod (wrap64 (x9+1)) (x0.length:Int)) then (if (Int.tmod (wrap64 (x9+1)) (x0.length:Int))<(x0.length:Int) then (plane_area.l0 k x0 (wrap64 (x3+(wrap64 ((wrap64 (((rd_T159 x7 x9).f0)*((rd_T159 x0 (Int.tmod (wrap64 (x9+1)) (x0.length:Int))).f1)))-(wrap64 (((rd_T159 x0 (Int.tmod (wrap64 (x9+1)) (x0.length:Int))).f0)*((rd_T159 x7 x9).f1))))))) x7 x8 (wrap64 (x9+1))) else (none)) else (none))) else (none)) else (none)) else (some x3)
def plane_area.f (k:Nat) (l0:List (S159)):Option (Int):=plane_area.l0 k l0 0 l0 (l0.length:Int) 0
theorem plane_area.mono_l:∀ k,(∀ y0 y1 y2 y3 y4,LeO (plane_area.l0 k y0 y1 y2 y3 y4) (plane_area.l0 (k+1) y0 y1 y2 y3 y4))
 | 0=>fun _ _ _ _ _ r h=>by simp [plane_area.l0] at h
 | k+1=>by
  have ih0:=plane_area.mono_l k
  ·intro y0 y1 y2 y3 y4
   unfold plane_area.l0
   repeat' first
   | (with_reducible exact ih0 _ _ _ _ _)
   | (with_reducible exact LeO.refl _)
   | (with_reducible exact LeO.none _)
   | (with_reducible refine LeO.ite ?_ ?_)
   | (with_reducible refine LeO.bind ?_ (fun _=>?_))
   | exact ih0 _ _ _ _ _
   | exact LeO.none _
   | refine LeO.ite ?_ ?_
   | refine LeO.bind ?_ (fun _=>?_)
theorem plane_area.mono:∀ a0 k,LeO (plane_area.f k a0) (plane_area.f (k+1) a0):=by
 intro a0 k
 have ih0:=plane_area.mono_l k
 unfold plane_area.f
 repeat' first
   | (with_reducible exact ih0 _ _ _ _ _)
   | (with_reducible exact LeO.refl _)
   | (with_reducible exact LeO.none _)
   | (with_reducible refine LeO.ite ?_ ?_)
   | (with_reducible refine LeO.bind ?_ (fun _=>?_))
   | exact ih0 _ _ _ _ _
   | exact LeO.none _
   | refine LeO.ite ?_ ?_
   | refine LeO.bind ?_ (fun _=>?_)
set_option maxHeartbeats 8000000 in
set_option maxRecDepth 100000 in
theorem plane_area.calls (k:Nat) (A0:Option Addr) (c0:Nat) (l0:List (S159)) (r:Int) (w:World) (hr0:Kd.C k159 w A0 l0.length l0) (hc0:l0.length≤c0) (h:plane_area.f k l0=some r) :
  Calls Tryz.prog 97 #[.slice A0 l0.length c0] w fun e w'=>e=.returned (.int .i64 r)∧Below w.heap.size w w':=by
 have hu159:=Tryz.underlying159
 have HR0:=Aside0.mk hr0
 have HC0:=Aside0.mk hc0
 clear hr0 hc0
 have HB:=Aside0.mk (Below.refl w.heap.size w)
 have H:(plane_area.l0 k l0 0 l0 (l0.length:Int) 0)=some r:=h
 clear h
 have H':=Aside0.mk H
 clear H
 go_enter Tryz.func97,Tryz.ntmps97
 go_wp2
 go_loopg [3,9] k (fun kq v3 v9 w'=>∃ (x3_1:Int) (x9_1:Int),v3=.int .i64 x3_1∧v9=.int .i64 x9_1∧Aside0 (plane_area.l0 kq l0 x3_1 l0 (l0.length:Int) x9_1=some r)∧Aside0 (kq≤k)∧Aside0 (Below w.heap.size w w'))
 case atStart=>exact ⟨(0),(0),(by first|rfl|(simp;done)|(simp [*];done)),(by first|rfl|(simp;done)|(simp [*];done)),H',⟨Nat.le_refl _⟩,⟨by repeat (first|(with_reducible first|exact HB.out|apply below_alloc|apply pw_below_drewN|apply below_drew1)|exact HB.out)⟩⟩
 case round =>
  clear H'
  obtain ⟨x3_1,x9_1,rfl,rfl,HA,HK1,HB⟩:=hrel
  cases gk with
  | zero=>exact absurd HA.out (by simp [plane_area.l0])
  | succ k1 =>
   have H:=HA.out
   clear HA
   simp only [plane_area.l0] at H
   by_cases c2:x9_1<(l0.length:Int)
   ·rw [if_pos c2] at H
    have c2b0:decide (x9_1<(l0.length:Int))=true:=decide_eq_true c2
    clear c2
    by_cases c3:0≤x9_1
    ·rw [if_pos c3] at H
     have c3b0:decide (0≤x9_1)=true:=decide_eq_true c3
     clear c3
     by_cases c4:x9_1<(l0.length:Int)
     ·rw [if_pos c4] at H
      have c4b0:decide (x9_1<(l0.length:Int))=true:=decide_eq_true c4
      clear c4
      by_cases c5:(l0.length:Int)=0
      ·rw [if_pos c5] at H
       exact absurd H (by simp)
      ·rw [if_neg c5] at H
       have c5b0:((l0.length:Int) == 0)=false:=beq_eq_false_iff_ne.mpr c5
       have c5b1:((l0.length:Int) != 0)=true:=bne_iff_ne.mpr c5
       have c5b2:¬ (l0=[]):=fun h_=>c5 (by rw [h_];rfl)
       obtain ⟨ji6,hji6⟩:∃ j_:Int,(Int.tmod (wrap64 (x9_1+1)) (l0.length:Int))=j_:=⟨_,rfl⟩
       replace H:(if 0≤(ji6) then (if (ji6)<(l0.length:Int) then (plane_area.l0 k1 l0 (wrap64 (x3_1+(wrap64 ((wrap64 (((rd_T159 l0 x9_1).f0)*((rd_T159 l0 (ji6)).f1)))-(wrap64 (((rd_T159 l0 (ji6)).f0)*((rd_T159 l0 x9_1).f1))))))) l0 (l0.length:Int) (wrap64 (x9_1+1))) else (none)) else (none))=some r:=by first|(rw [hji6] at H;exact H)|(simp only [hji6] at H ⊢;exact H)
       by_cases c7:0≤(ji6)
       ·rw [if_pos c7] at H
        have c7b0:decide (0≤(ji6))=true:=decide_eq_true c7
        clear c7
        by_cases c8:(ji6)<(l0.length:Int)
        ·rw [if_pos c8] at H
         have c8b0:decide ((ji6)<(l0.length:Int))=true:=decide_eq_true c8
         clear c8
         have H':=Aside0.mk H
         clear H
         have p388:0≤(x9_1:Int):=of_decide_eq_true (by first|(with_reducible assumption)|assumption)
         have q388:x9_1<(l0.length:Int):=of_decide_eq_true (by first|(with_reducible assumption)|assumption)
         obtain ⟨ad388,e388,hx388_0,hx388_1⟩:=at_T159 HR0.out x9_1 p388 q388
         cases e388
         replace hx388_0:=(HB.out.cell (World.block_lt_of_cell? w _ hx388_0)).trans hx388_0
         replace hx388_1:=(HB.out.cell (World.block_lt_of_cell? w _ hx388_1)).trans hx388_1
         replace p388:=eq_true p388
         replace q388:=eq_true q388
         go_wp2_with (first|((with_reducible refine gate_dst (N:=5) rfl ?_);refine box_event ?hg (N:=5) ?hd (cs:=#[.int .i64 0,.int .i64 0]) (t:=159) ?hr ?_;(case hd=>rfl);(case hg=>rfl);(case hr=>first|(go_simp;done)|(go_simp;rfl));intro gb389 hg w9 hbox hb;have n0_:=Aside0.mk (below_step (by repeat (first|(with_reducible first|exact HB.out|apply below_alloc|apply pw_below_drewN|apply below_drew1)|exact HB.out)) hb);have n1_:=Aside0.mk (hbox);have n2_:=Aside0.mk ((by rw [hg];exact (below_size (by repeat (first|(with_reducible first|exact HB.out|apply below_alloc|apply pw_below_drewN|apply below_drew1)|exact HB.out))):w.heap.size≤gb389));have n3_:=Aside0.mk ((by rw [hg];exact (below_size (by repeat (first|(with_reducible first|exact HB.out|apply below_alloc|apply pw_below_drewN|apply below_drew1)|exact HB.out))):w.heap.size≤gb389));clear HB;have HB:=n0_;have BK389:=n1_;have GW389:=n2_;have GE389:=n3_;clear n0_ n1_ n2_ n3_;clear hb hbox hg;have hcz10_0:w9.cell? ⟨gb389,0,none⟩=some (.int .i64 0):=(blk_cell BK389.out 0).trans rfl;have hcz10_1:w9.cell? ⟨gb389,1,none⟩=some (.int .i64 0):=(blk_cell BK389.out 1).trans rfl;have hfz10_0:=blk_frozen BK389.out 0;have hfz10_1:=blk_frozen BK389.out 1;have p390:0≤((ji6):Int):=of_decide_eq_true (by first|(with_reducible assumption)|assumption);have q390:(ji6)<(l0.length:Int):=of_decide_eq_true (by first|(with_reducible assumption)|assumption);obtain ⟨ad390,e390,hx390_0,hx390_1⟩:=at_T159 HR0.out (ji6) p390 q390;obtain rfl:ad388=ad390:=(by injection e390);have hn390_0:ad388.block≠gb389:=Nat.ne_of_lt (Nat.lt_of_lt_of_le (by have:=World.block_lt_of_cell? _ _ hx390_0;first|rwa [add_block] at this|exact this) GW389.out);have hn390_1:ad388.block≠gb389:=Nat.ne_of_lt (Nat.lt_of_lt_of_le (by have:=World.block_lt_of_cell? _ _ hx390_0;first|rwa [add_block] at this|exact this) GW389.out);replace hx390_0:=(HB.out.cell (World.block_lt_of_cell? w _ hx390_0)).trans hx390_0;replace hx390_1:=(HB.out.cell (World.block_lt_of_cell? w _ hx390_1)).trans hx390_1;replace hx390_0:=(cell_far (p:=⟨gb389,0,none⟩) (by first|(rw [add_block];exact hn390_0)|(show (Addr.add _ _).block≠_;rw [add_block];exact hn390_0)|exact hn390_0) (.int .i64 ((rd_T159 l0 x9_1).f0))).trans hx390_0;replace hx390_1:=(cell_far (p:=⟨gb389,0,none⟩) (by first|(rw [add_block];exact hn390_0)|(show (Addr.add _ _).block≠_;rw [add_block];exact hn390_0)|exact hn390_0) (.int .i64 ((rd_T159 l0 x9_1).f0))).trans hx390_1;replace hx390_0:=(cell_far (p:=⟨gb389,1,none⟩) (by first|(rw [add_block];exact hn390_1)|(show (Addr.add _ _).block≠_;rw [add_block];exact hn390_1)|exact hn390_1) (.int .i64 ((rd_T159 l0 x9_1).f1))).trans hx390_0;replace hx390_1:=(cell_far (p:=⟨gb389,1,none⟩) (by first|(rw [add_block];exact hn390_1)|(show (Addr.add _ _).block≠_;rw [add_block];exact hn390_1)|exact hn390_1) (.int .i64 ((rd_T159 l0 x9_1).f1))).trans hx390_1;clear hn390_0;clear hn390_1;replace p390:=eq_true p390;replace q390:=eq_true q390)|((with_reducible refine gate_dst (N:=6) rfl ?_);refine box_event ?hg (N:=6) ?hd (cs:=#[.int .i64 0,.int .i64 0]) (t:=159) ?hr ?_;(case hd=>rfl);(case hg=>rfl);(case hr=>first|(go_simp;done)|(go_simp;rfl));intro gb391 hg w11 hbox hb;have n0_:=Aside0.mk (blk_below (g:=gb389) (o:=.cells #[.int .i64 ((rd_T159 l0 x9_1).f0),.int .i64 ((rd_T159 l0 x9_1).f1)] 159 (0,0)) (by (with_reducible repeat (first|refine blk_drewN ?_ _|refine blk_drew ?_|refine blk_alloc ?_ _));refine blk_put (cs:=#[.int .i64 ((rd_T159 l0 x9_1).f0),.int .i64 0]) ?_ 1 _ rfl;(with_reducible repeat (first|refine blk_drewN ?_ _|refine blk_drew ?_|refine blk_alloc ?_ _));refine blk_put (cs:=#[.int .i64 0,.int .i64 0]) ?_ 0 _ rfl;(with_reducible repeat (first|refine blk_drewN ?_ _|refine blk_drew ?_|refine blk_alloc ?_ _));exact BK389.out) hb);have n1_:=Aside0.mk (below_step (by repeat (first|(with_reducible first|exact HB.out|apply below_alloc|apply pw_below_drewN|apply below_drew1|refine below_set ?_ GE389.out)|exact HB.out)) hb);have n2_:=Aside0.mk (hbox);have n3_:=Aside0.mk ((by rw [hg];exact (below_size (by repeat (first|(with_reducible first|exact HB.out|apply below_alloc|apply pw_below_drewN|apply below_drew1|refine below_set ?_ GE389.out)|exact HB.out))):w.heap.size≤gb391));have n4_:=Aside0.mk ((by rw [hg];exact (below_size (by repeat (first|(with_reducible first|exact HB.out|apply below_alloc|apply pw_below_drewN|apply below_drew1|refine below_set ?_ GE389.out)|exact HB.out))):w.heap.size≤gb391));have n5_:=Aside0.mk ((by rw [hg];exact Nat.ne_of_lt (blk_lt (g:=gb389) (o:=.cells #[.int .i64 ((rd_T159 l0 x9_1).f0),.int .i64 ((rd_T159 l0 x9_1).f1)] 159 (0,0)) (by (with_reducible repeat (first|refine blk_drewN ?_ _|refine blk_drew ?_|refine blk_alloc ?_ _));refine blk_put (cs:=#[.int .i64 ((rd_T159 l0 x9_1).f0),.int .i64 0]) ?_ 1 _ rfl;(with_reducible repeat (first|refine blk_drewN ?_ _|refine blk_drew ?_|refine blk_alloc ?_ _));refine blk_put (cs:=#[.int .i64 0,.int .i64 0]) ?_ 0 _ rfl;(with_reducible repeat (first|refine blk_drewN ?_ _|refine blk_drew ?_|refine blk_alloc ?_ _));exact BK389.out)):gb389≠gb391));have n6_:=Aside0.mk ((by rw [hg];exact Nat.ne_of_gt (blk_lt (g:=gb389) (o:=.cells #[.int .i64 ((rd_T159 l0 x9_1).f0),.int .i64 ((rd_T159 l0 x9_1).f1)] 159 (0,0)) (by (with_reducible repeat (first|refine blk_drewN ?_ _|refine blk_drew ?_|refine blk_alloc ?_ _));refine blk_put (cs:=#[.int .i64 ((rd_T159 l0 x9_1).f0),.int .i64 0]) ?_ 1 _ rfl;(with_reducible repeat (first|refine blk_drewN ?_ _|refine blk_drew ?_|refine blk_alloc ?_ _));refine blk_put (cs:=#[.int .i64 0,.int .i64 0]) ?_ 0 _ rfl;(with_reducible repeat (first|refine blk_drewN ?_ _|refine blk_drew ?_|refine blk_alloc ?_ _));exact BK389.out)):gb391≠gb389));clear BK389;clear HB;have BK389:=n0_;have HB:=n1_;have BK391:=n2_;have GW391:=n3_;have GE391:=n4_;have NB389_391:=n5_;have NB391_389:=n6_;clear n0_ n1_ n2_ n3_ n4_ n5_ n6_;clear hb hbox hg;have hnb12:=NB391_389.out;have hnc12:=NB389_391.out;have hcz13_0:w11.cell? ⟨gb391,0,none⟩=some (.int .i64 0):=(blk_cell BK391.out 0).trans rfl;have hcz13_1:w11.cell? ⟨gb391,1,none⟩=some (.int .i64 0):=(blk_cell BK391.out 1).trans rfl;have hfz13_0:=blk_frozen BK391.out 0;have hfz13_1:=blk_frozen BK391.out 1;have hcz14_0:w11.cell? ⟨gb389,0,none⟩=some (.int .i64 ((rd_T159 l0 x9_1).f0)):=(blk_cell BK389.out 0).trans rfl;have hcz14_1:w11.cell? ⟨gb389,1,none⟩=some (.int .i64 ((rd_T159 l0 x9_1).f1)):=(blk_cell BK389.out 1).trans rfl;have hfz14_0:=blk_frozen BK389.out 0;have hfz14_1:=blk_frozen BK389.out 1))
         go_roundg k1
         case measure=>have:=HK1.out;omega
         case rel=>exact ⟨(wrap64 (x3_1+(wrap64 ((wrap64 (((rd_T159 l0 x9_1).f0)*((rd_T159 l0 (ji6)).f1)))-(wrap64 (((rd_T159 l0 (ji6)).f0)*((rd_T159 l0 x9_1).f1))))))),(wrap64 (x9_1+1)),(by first|rfl|(simp;done)|(simp only [← hji6] <;> (first|rfl|simp))|(simp [*];done)),(by first|rfl|(simp;done)|(simp [*];done)),H',⟨by have:=HK1.out;omega⟩,⟨by repeat (first|(with_reducible first|exact HB.out|apply below_alloc|apply pw_below_drewN|apply below_drew1|refine below_set ?_ GE389.out|refine below_set ?_ GE391.out)|exact HB.out)⟩⟩
        ·rw [if_neg c8] at H
         exact absurd H (by simp)
       ·rw [if_neg c7] at H
        exact absurd H (by simp)
     ·rw [if_neg c4] at H
      exact absurd H (by simp)
    ·rw [if_neg c3] at H
     exact absurd H (by simp)
   ·rw [if_neg c2] at H
    have c2b0:decide (x9_1<(l0.length:Int))=false:=decide_eq_false c2
    clear c2
    obtain rfl:=Option.some.inj H
    go_wp2
    go_ret
    exact ⟨by first|rfl|(simp [errW_none,errW_some] <;> rfl)|(simp [*,errW_none,errW_some] <;> rfl),by repeat (first|(with_reducible first|exact HB.out|apply below_alloc|apply pw_below_drewN|apply below_drew1)|exact HB.out)⟩
end Go.Proofs.YtiioklboaookiaaGreatDoor.Q
namespace Go.Proofs.YtiioklboaookiaaGreatDoor.Q
open Go.RowKit Go.Proofs.YtiioklboaookiaaGreatDoorW.PrintWords Go.Proofs.YtiioklboaookiaaGreatDoorW.PrintLast Go.Proofs.YtiioklboaookiaaGreatDoor.Hand Go.Proofs.YtiioklboaookiaaGreatDoorW.PrintMore
attribute [local go_sem] max2_int min2_int max_two min_two max_three min_three max_four min_four
set_option linter.unusedVariables false
set_option linter.unusedSimpArgs false
def label_isParameters.f (a0:Int) (a1:Int):Option (Bool):=if a1 ≥ 0 then (if a1≤64 then (if a0 ≥ (wrap64 (a1+1)) then (some (decide (a0≤255))) else (some false)) else (some false)) else (some false)
set_option maxHeartbeats 8000000 in
set_option maxRecDepth 100000 in
theorem label_isParameters.calls (a0:Int) (a1:Int) (r:Bool) (w:World) (h:label_isParameters.f a0 a1=some r) :
  Calls Tryz.prog 52 #[.int .i64 a0,.int .i64 a1] w fun e w'=>e=.returned (.bool r)∧Drawn0 w w':=by
 have H:(if a1 ≥ 0 then (if a1≤64 then (if a0 ≥ (wrap64 (a1+1)) then (some (decide (a0≤255))) else (some false)) else (some false)) else (some false))=some r:=h
 clear h
 by_cases c3:a1 ≥ 0
 ·rw [if_pos c3] at H
  have c3b0:decide (0≤a1)=true:=decide_eq_true c3
  clear c3
  by_cases c4:a1≤64
  ·rw [if_pos c4] at H
   have c4b0:decide (a1≤64)=true:=decide_eq_true c4
   clear c4
   by_cases c5:a0 ≥ (wrap64 (a1+1))
   ·rw [if_pos c5] at H
    have c5b0:decide ((wrap64 (a1+1))≤a0)=true:=decide_eq_true c5
    clear c5
    obtain rfl:=Option.some.inj H
    go_enter Tryz.func52,Tryz.ntmps52
    go_wp2
    go_ret
    exact ⟨by first|rfl|(simp;done)|(simp [*];done),by repeat (first|exact Drawn0.refl _|apply Drawn0.step)⟩
   ·rw [if_neg c5] at H
    have c5b0:decide ((wrap64 (a1+1))≤a0)=false:=decide_eq_false c5
    clear c5
    obtain rfl:=Option.some.inj H
    go_enter Tryz.func52,Tryz.ntmps52
    go_wp2
    go_ret
    exact ⟨by first|rfl|(simp;done)|(simp [*];done),by repeat (first|exact Drawn0.refl _|apply Drawn0.step)⟩
  ·rw [if_neg c4] at H
   have c4b0:decide (a1≤64)=false:=decide_eq_false c4
   clear c4
   obtain rfl:=Option.some.inj H
   go_enter Tryz.func52,Tryz.ntmps52
   go_wp2
   go_ret
   exact ⟨by first|rfl|(simp;done)|(simp [*];done),by repeat (first|exact Drawn0.refl _|apply Drawn0.step)⟩
 ·rw [if_neg c3] at H
  have c3b0:decide (0≤a1)=false:=decide_eq_false c3
  clear c3
  obtain rfl:=Option.some.inj H
  go_enter Tryz.func52,Tryz.ntmps52
  go_wp2
  go_ret
  exact ⟨by first|rfl|(simp;done)|(simp [*];done),by repeat (first|exact Drawn0.refl _|apply Drawn0.step)⟩
def label_generator.l0:Nat→List Int→Int→Int→Option (List Int)
 | 0,_,_,_=>none
 | k+1,x3,x6,x7=>if x7<x6 then ((label_exp.f x7).bind fun t133=>((label_times.f x3 (([t133,1]:List Int)) (wrap64 (x7+2))).bind fun t137=>(label_generator.l0 k t137 x6 (wrap64 (x7+1))))) else (some x3)
def label_generator.f (k:Nat) (a0:Int):Option (List Int):=label_generator.l0 k (([1]:List Int)) a0 0
theorem label_generator.mono_l:∀ k,(∀ y0 y1 y2,LeO (label_generator.l0 k y0 y1 y2) (label_generator.l0 (k+1) y0 y1 y2))
 | 0=>fun _ _ _ r h=>by simp [label_generator.l0] at h
 | k+1=>by
  have ih0:=label_generator.mono_l k
  ·intro y0 y1 y2
   unfold label_generator.l0
   repeat' first
   | (with_reducible exact ih0 _ _ _)
   | (with_reducible exact LeO.refl _)
   | (with_reducible exact LeO.none _)
   | (with_reducible refine LeO.ite ?_ ?_)
   | (with_reducible refine LeO.bind ?_ (fun _=>?_))
   | exact ih0 _ _ _
   | exact LeO.none _
   | refine LeO.ite ?_ ?_
   | refine LeO.bind ?_ (fun _=>?_)
theorem label_generator.mono:∀ a0 k,LeO (label_generator.f k a0) (label_generator.f (k+1) a0):=by
 intro a0 k
 have ih0:=label_generator.mono_l k
 unfold label_generator.f
 repeat' first
   | (with_reducible exact ih0 _ _ _)
   | (with_reducible exact LeO.refl _)
   | (with_reducible exact LeO.none _)
   | (with_reducible refine LeO.ite ?_ ?_)
   | (with_reducible refine LeO.bind ?_ (fun _=>?_))
   | exact ih0 _ _ _
   | exact LeO.none _
   | refine LeO.ite ?_ ?_
   | refine LeO.bind ?_ (fun _=>?_)
set_option maxHeartbeats 8000000 in
set_option maxRecDepth 100000 in
theorem label_generator.calls (k:Nat) (a0:Int) (r:List Int) (w:World) (h:label_generator.f k a0=some r) :
  Calls Tryz.prog 53 #[.int .i64 a0] w fun e w'=>∃ v0_:Value,e=.returned (v0_)∧Kd.R (Kd.int .u8) 5 w' w.heap.size (fun _=>True) v0_ r∧Below w.heap.size w w':=by
 have HB:=Aside0.mk (Below.refl w.heap.size w)
 have H:(label_generator.l0 k (([1]:List Int)) a0 0)=some r:=h
 clear h
 obtain ⟨y130,hy130⟩:∃ y_:List Int,y_=(([1]:List Int)):=⟨_,rfl⟩
 replace H:(label_generator.l0 k y130 a0 0)=some r:=by first|(rw [hy130];with_reducible exact H)|(have H2_:=(Option.bind_some _ _).symm.trans H;rw [hy130];with_reducible exact H2_)|(have H2_:=(Option.bind_some _ _).symm.trans H;with_reducible exact H2_)|with_reducible exact H|(rw [hy130];exact H)|exact H
 have Ny130:=Aside0.mk hy130
 clear hy130
 have H':=Aside0.mk H
 clear H
 go_enter Tryz.func53,Tryz.ntmps53
 go_wp2_with (first|((with_reducible refine gate_dst (N:=5) rfl ?_);refine Kd.R_lit (Kd.int .u8) _ 5 ?hg (N:=5) ?hd (xs:=([1]:List Int)) (inner:=[.int .u8 1]) (ok:=fun _=>True) (okp:=fun _=>True) ?hr ?hp (fun _ hk=>hk) trivial (Below.refl _ _) (Nat.le_refl _) (by simp) ?_;(case hd=>rfl);(case hg=>rfl);(case hr=>first|(go_simp;done)|(go_simp;rfl));(case hp=>exact (Reps.one (show Kd.M (Kd.int .u8) _ _ _ 1 [.int .u8 1] from rfl) (Reps.none _ _)));intro v131 w2 ho3 hb hg_ hnew_;clear hg_ hnew_;(first|rw [← Ny130.out] at ho3|(simp only [Int.reduceToNat] at ho3;rw [← Ny130.out] at ho3));have n0_:=Aside0.mk (Kd.R_lower ho3 (below_size (by repeat (first|(with_reducible first|exact HB.out|apply below_alloc|apply pw_below_drewN|apply below_drew1)|exact HB.out))));have n1_:=Aside0.mk (below_step (by repeat (first|(with_reducible first|exact HB.out|apply below_alloc|apply pw_below_drewN|apply below_drew1)|exact HB.out)) hb);clear HB;have HO132:=n0_;have HB:=n1_;clear n0_ n1_;clear hb ho3))
 go_loopg [3,7] k (fun kq v3 v7 w'=>∃ (x3_1:List Int) (x7_1:Int),v7=.int .i64 x7_1∧Aside0 (label_generator.l0 kq x3_1 a0 x7_1=some r)∧Aside0 (kq≤k)∧Aside0 (Kd.R (Kd.int .u8) 5 w' w.heap.size (fun _=>True) v3 x3_1)∧Aside0 (Below w.heap.size w w'))
 case atStart=>exact ⟨(y130),(0),(by first|rfl|(simp;done)|(simp [*];done)),H',⟨Nat.le_refl _⟩,⟨by (with_reducible repeat (first|apply Kd.R_alloc|apply Kd.R_drewN|apply Kd.R_drew));exact HO132.out⟩,⟨by repeat (first|(with_reducible first|exact HB.out|apply below_alloc|apply pw_below_drewN|apply below_drew1)|exact HB.out)⟩⟩
 case round =>
  clear H'
  try clear p2
  obtain ⟨x3_1,x7_1,rfl,HA,HK1,HO_3,HB⟩:=hrel
  cases gk with
  | zero=>exact absurd HA.out (by simp [label_generator.l0])
  | succ k1 =>
   have H:=HA.out
   clear HA
   simp only [label_generator.l0] at H
   by_cases c4:x7_1<a0
   ·rw [if_pos c4] at H
    have c4b0:decide (x7_1<a0)=true:=decide_eq_true c4
    clear c4
    replace H:=Option.bind_eq_some_iff.mp H
    obtain ⟨t133,A50,H⟩:=H
    replace H:((label_times.f x3_1 (([t133,1]:List Int)) (wrap64 (x7_1+2))).bind fun t137=>(label_generator.l0 k1 t137 a0 (wrap64 (x7_1+1))))=some r:=H
    have A5:=Aside0.mk A50;(try simp only [Int.toNat_natCast] at A5)
    clear A50
    obtain ⟨y134,hy134⟩:∃ y_:List Int,y_=(([t133,1]:List Int)):=⟨_,rfl⟩
    replace H:((label_times.f x3_1 y134 (wrap64 (x7_1+2))).bind fun t137=>(label_generator.l0 k1 t137 a0 (wrap64 (x7_1+1))))=some r:=by first|(rw [hy134];with_reducible exact H)|(have H2_:=(Option.bind_some _ _).symm.trans H;rw [hy134];with_reducible exact H2_)|(have H2_:=(Option.bind_some _ _).symm.trans H;with_reducible exact H2_)|with_reducible exact H|(rw [hy134];exact H)|exact H
    have Ny134:=Aside0.mk hy134
    clear hy134
    replace H:=Option.bind_eq_some_iff.mp H
    obtain ⟨t137,A60,H⟩:=H
    replace H:(label_generator.l0 k1 t137 a0 (wrap64 (x7_1+1)))=some r:=H
    have A6:=Aside0.mk A60;(try simp only [Int.toNat_natCast] at A6)
    clear A60
    have H':=Aside0.mk H
    clear H
    go_wp2_with (first|((with_reducible refine gate_callee (f:=88) rfl ?_);refine goesL_ (some 12) rfl rfl Tryz.func88 (by kernel_rfl) rfl #[.int .i64 x7_1] rfl (by (try simp only [List.map_toArray,List.map_cons,List.map_nil]);first|done|rfl|(simp only [List.length_drop,List.length_take];rfl)) ?_;(with_reducible refine (label_exp.calls x7_1 t133 _ A5.out).mono ?_);rintro e w7 ⟨rfl,hb⟩;refine ⟨_,rfl,?_⟩;have n0_:=Aside0.mk (Kd.R_below (by (with_reducible repeat (first|apply Kd.R_alloc|apply Kd.R_drewN|apply Kd.R_drew));exact HO_3.out) hb);have n1_:=Aside0.mk (below_step (by repeat (first|(with_reducible first|exact HB.out|apply below_alloc|apply pw_below_drewN|apply below_drew1)|exact HB.out)) hb);clear HO_3;clear HB;have HO_3:=n0_;have HB:=n1_;clear n0_ n1_;(try clear hb);(try clear hb2);(try clear hk);(try clear hi))|((with_reducible refine gate_dst (N:=13) rfl ?_);refine Kd.R_lit (Kd.int .u8) _ 5 ?hg (N:=13) ?hd (xs:=([t133,1]:List Int)) (inner:=[.int .u8 t133,.int .u8 1]) (ok:=fun _=>True) (okp:=fun _=>True) ?hr ?hp (fun _ hk=>hk) trivial (Below.refl _ _) (Nat.le_refl _) (by simp) ?_;(case hd=>rfl);(case hg=>rfl);(case hr=>first|(go_simp;done)|(go_simp;rfl));(case hp=>exact (Reps.one (show Kd.M (Kd.int .u8) _ _ _ t133 [.int .u8 t133] from rfl) (Reps.one (show Kd.M (Kd.int .u8) _ _ _ 1 [.int .u8 1] from rfl) (Reps.none _ _))));intro v135 w8 ho9 hb hg_ hnew_;clear hg_ hnew_;(first|rw [← Ny134.out] at ho9|(simp only [Int.reduceToNat] at ho9;rw [← Ny134.out] at ho9));have n0_:=Aside0.mk (Kd.R_elder' (by (with_reducible repeat (first|apply Kd.R_alloc|apply Kd.R_drewN|apply Kd.R_drew));exact HO_3.out) (Kd.R_base ho9) hb);have n1_:=Aside0.mk (Kd.R_lower (Kd.R_new' ho9 (Kd.R_lt (by (with_reducible repeat (first|apply Kd.R_alloc|apply Kd.R_drewN|apply Kd.R_drew));exact HO_3.out))) (below_size (by repeat (first|(with_reducible first|exact HB.out|apply below_alloc|apply pw_below_drewN|apply below_drew1)|exact HB.out))));have n2_:=Aside0.mk (below_step (by repeat (first|(with_reducible first|exact HB.out|apply below_alloc|apply pw_below_drewN|apply below_drew1)|exact HB.out)) hb);clear HO_3;clear HB;have HO_3:=n0_;have HO136:=n1_;have HB:=n2_;clear n0_ n1_ n2_;clear hb ho9;obtain ⟨Ao10,co10,eo10⟩:=Kd.R_slice HO_3.out;subst eo10;obtain ⟨Ao11,co11,eo11⟩:=Kd.R_slice HO136.out;subst eo11)|((with_reducible refine gate_callee (f:=87) rfl ?_);refine goesL_ (some 16) rfl rfl Tryz.func87 (by kernel_rfl) rfl #[.slice Ao10 x3_1.length co10,.slice Ao11 y134.length co11,.int .i64 (wrap64 (x7_1+2))] rfl (by (try simp only [List.map_toArray,List.map_cons,List.map_nil]);first|done|rfl|(simp only [List.length_drop,List.length_take];rfl)) ?_;(with_reducible refine (label_times.calls _ _ x3_1 _ _ y134 (wrap64 (x7_1+2)) t137 _ ?side1 ?side2 ?side3 ?side4 A6.out).mono ?_);(case side1=>repeat (first|exact (Kd.R_reads' HO_3.out).2.2|(with_reducible refine Kd.C_alloc ?_ _)|(with_reducible refine Kd.C_drewN ?_ _)|(with_reducible refine Kd.C_drew ?_)));(case side2=>exact (Kd.R_reads' HO_3.out).2.1);(case side3=>repeat (first|exact (Kd.R_reads' HO136.out).2.2|(with_reducible refine Kd.C_alloc ?_ _)|(with_reducible refine Kd.C_drewN ?_ _)|(with_reducible refine Kd.C_drew ?_)));(case side4=>exact (Kd.R_reads' HO136.out).2.1);rintro e w12 ⟨v138,rfl,ho0,hb⟩;refine ⟨_,rfl,?_⟩;have n0_:=Aside0.mk (Kd.R_elder' (by (with_reducible repeat (first|apply Kd.R_alloc|apply Kd.R_drewN|apply Kd.R_drew));exact HO_3.out) (Kd.R_base ho0) hb);have n1_:=Aside0.mk (Kd.R_elder' (by (with_reducible repeat (first|apply Kd.R_alloc|apply Kd.R_drewN|apply Kd.R_drew));exact HO136.out) (Kd.R_base ho0) hb);have n2_:=Aside0.mk (Kd.R_lower (Kd.R_new' (Kd.R_new' ho0 (Kd.R_lt (by (with_reducible repeat (first|apply Kd.R_alloc|apply Kd.R_drewN|apply Kd.R_drew));exact HO_3.out))) (Kd.R_lt (by (with_reducible repeat (first|apply Kd.R_alloc|apply Kd.R_drewN|apply Kd.R_drew));exact HO136.out))) (below_size (by repeat (first|(with_reducible first|exact HB.out|apply below_alloc|apply pw_below_drewN|apply below_drew1)|exact HB.out))));have n3_:=Aside0.mk (below_step (by repeat (first|(with_reducible first|exact HB.out|apply below_alloc|apply pw_below_drewN|apply below_drew1)|exact HB.out)) hb);clear HO_3;clear HO136;clear HB;have HO_3:=n0_;have HO136:=n1_;have HO139:=n2_;have HB:=n3_;clear n0_ n1_ n2_ n3_;(try clear hb);(try clear hb2);(try clear hk);(try clear hi);(try clear ho0)))
    go_roundg k1
    case measure=>have:=HK1.out;omega
    case rel=>exact ⟨(t137),(wrap64 (x7_1+1)),(by first|rfl|(simp;done)|(simp [*];done)),H',⟨by have:=HK1.out;omega⟩,⟨by (with_reducible repeat (first|apply Kd.R_alloc|apply Kd.R_drewN|apply Kd.R_drew));exact Kd.R_mono HO139.out (fun _ hk=>trivial)⟩,⟨by repeat (first|(with_reducible first|exact HB.out|apply below_alloc|apply pw_below_drewN|apply below_drew1)|exact HB.out)⟩⟩
   ·rw [if_neg c4] at H
    have c4b0:decide (x7_1<a0)=false:=decide_eq_false c4
    clear c4
    obtain rfl:=Option.some.inj H
    go_wp2
    go_ret
    exact ⟨_,by first|rfl|(simp [errW_none,errW_some] <;> rfl)|(simp [*,errW_none,errW_some] <;> rfl),by (with_reducible repeat (first|apply Kd.R_alloc|apply Kd.R_drewN|apply Kd.R_drew));exact HO_3.out,by repeat (first|(with_reducible first|exact HB.out|apply below_alloc|apply pw_below_drewN|apply below_drew1)|exact HB.out)⟩
def encK (g:List Int) (p i:Nat) (lead:Int):Nat→Nat→List Int→List Int
 | 0,_,rest=>rest
 | m+1,k,rest=>encK g p i lead m (k+1) (rest.set (i+1+k) (Go.bits .xor .u8 (rd rest (i+1+k:Nat)) (Rs.mulN lead.toNat (rd g (p-1-k:Nat)).toNat:Nat)))
def encI (g:List Int) (p:Nat):Nat→Nat→List Int→List Int
 | 0,_,rest=>rest
 | m+1,i,rest=>encI g p m (i+1) (encK g p i (rd rest i) p 0 rest)
def label_Encode.f (k:Nat) (a0:ByteArray) (a1:Int):Option (ByteArray × Int) :=
 if a1<0 then some (⟨#[]⟩,2) else if a1 > 64 then some (⟨#[]⟩,2) else
 (label_isParameters.f (wrap64 ((a0.size:Int)+a1)) a1).bind fun t=>if t=true then
  ((label_generator.f k a1).bind fun g=>if bytesB g=true∧(g.length:Int)=a1+1∧a0.size≤100000∧0<a0.size then
   some (a0++strOfNums ((encI g a1.toNat a0.size 0 (bytesOf a0++List.replicate a1.toNat 0)).drop a0.size),0) else none)
  else some (⟨#[]⟩,2)
theorem label_Encode.mono:∀ a0 a1 k,LeO (label_Encode.f k a0 a1) (label_Encode.f (k+1) a0 a1):=by
 intro a0 a1 k
 unfold label_Encode.f
 repeat' first
   | (with_reducible exact label_generator.mono _ _)
   | (with_reducible exact LeO.refl _)
   | (with_reducible refine LeO.ite ?_ ?_)
   | (with_reducible refine LeO.bind ?_ (fun _=>?_))
set_option maxHeartbeats 1000000 in
set_option maxRecDepth 100000 in
theorem enc_bad (a0:ByteArray) (a1:Int) (w:World) (h:a1<0∨a1 > 64) :
  Calls Tryz.prog 27 #[.string a0,.int .i64 a1] w fun e w'=>e=.returned (.tuple #[.string ⟨#[]⟩,.int .i64 2])∧Below w.heap.size w w':=by
 by_cases h0:a1<0
 ·have d0:decide (a1<0)=true:=decide_eq_true h0
  clear h h0
  go_enter Tryz.func27,Tryz.ntmps27
  go_wp2
  go_ret2
  exact ⟨rfl,Below.refl _ _⟩
 ·have d0:decide (a1<0)=false:=decide_eq_false h0
  have d1:decide (64<a1)=true:=decide_eq_true (by omega)
  clear h h0
  go_enter Tryz.func27,Tryz.ntmps27
  go_wp2
  go_ret2
  exact ⟨rfl,Below.refl _ _⟩
set_option maxHeartbeats 1000000 in
set_option maxRecDepth 100000 in
theorem enc_no (a0:ByteArray) (a1:Int) (w:World) (h0:0≤a1) (h1:a1≤64) (hp:label_isParameters.f (wrap64 ((a0.size:Int)+a1)) a1=some false) :
  Calls Tryz.prog 27 #[.string a0,.int .i64 a1] w fun e w'=>e=.returned (.tuple #[.string ⟨#[]⟩,.int .i64 2])∧Below w.heap.size w w':=by
 have d0:decide (a1<0)=false:=decide_eq_false (by omega)
 have d1:decide (64<a1)=false:=decide_eq_false (by omega)
 obtain ⟨s,hs⟩:∃ s,wrap64 ((a0.size:Int)+a1)=s:=⟨_,rfl⟩
 have hs' : IntKind.i64.wrap ((a0.size:Int)+a1)=s:=(i64_w _).trans hs
 rw [hs] at hp
 have HP:=hid hp
 clear hp h0 h1
 go_enter Tryz.func27,Tryz.ntmps27
 go_wp2_with (go_at_call 52;refine (label_isParameters.calls _ _ false _ HP.out).mono ?_;rintro e w1 ⟨rfl,⟨nd,rfl⟩⟩)
 go_ret2
 exact ⟨rfl,pw_below_drewN (Below.refl _ _) _⟩
def Gc (g2:Nat) (gl:List Int) (w:World):Prop:=g2<w.heap.size∧∀ j,j<gl.length→w.cell? ⟨g2,j,none⟩=some (.int .u8 (rd gl j))
theorem Gc.below {g2:Nat} {gl:List Int} {w w1:World} (h:Gc g2 gl w) (hb:Below w.heap.size w w1):Gc g2 gl w1:=⟨Nat.lt_of_lt_of_le h.1 hb.size,fun j hj=>(hb.cell (p:=⟨g2,j,none⟩) h.1).trans (h.2 j hj)⟩
theorem Gc.far {g2:Nat} {gl:List Int} {w:World} (h:Gc g2 gl w) {p:Addr} (hp:g2≠p.block) (u:Value):Gc g2 gl (w.setCell p u) :=
 ⟨by simpa using h.1,fun j hj=>(World.cell?_setCell_other _ _ _ _ (fun e=>hp (by rw [e]))).trans (h.2 j hj)⟩
set_option maxHeartbeats 8000000 in
set_option maxRecDepth 100000 in
theorem enc_walk (k0:Nat) (a0:ByteArray) (p:Nat) (gl:List Int) (w:World) (h1:(p:Int)≤64) (hp:label_isParameters.f (wrap64 ((a0.size:Int)+p)) p=some true) (hg:label_generator.f k0 p=some gl)
  (hgb:bytesB gl=true) (hgl:gl.length=p+1) (hs0:(a0.size:Int)≤100000) (hs1:0<(a0.size:Int)) :
  Calls Tryz.prog 27 #[.string a0,.int .i64 p] w fun e w'=>e=.returned (.tuple #[.string (a0++strOfNums ((encI gl p a0.size 0 (bytesOf a0++List.replicate p 0)).drop a0.size)),.int .i64 0])∧Below w.heap.size w w':=by
 have h0:(0:Int)≤(p:Int):=by omega
 have d0:decide ((p:Int)<0)=false:=decide_eq_false (by omega)
 have d1:decide (64<(p:Int))=false:=decide_eq_false (by omega)
 have s1:IntKind.i64.wrap ((a0.size:Int)+(p:Int))=(a0.size:Int)+(p:Int):=IntWalk.i64_in _ (by omega)
 rw [w64_in _ (by omega) (by omega)] at hp
 have HP:=hid hp
 have HG:=hid hg
 have HGB:=hid hgb
 have HGL:=hid hgl
 clear hp hg hgb hgl
 go_enter Tryz.func27,Tryz.ntmps27
 go_wp2_with (first
  | (go_at_call 52;refine (label_isParameters.calls _ _ true _ HP.out).mono ?_;rintro e w1 ⟨rfl,⟨nd,rfl⟩⟩)
  | (go_at_call 53;refine (label_generator.calls k0 _ gl _ HG.out).mono ?_;rintro e w1 ⟨vg,rfl,ho,hb⟩;have HOG:=Aside0.mk ho;have HBG:=Aside0.mk hb;clear ho hb)
  | ((with_reducible refine gate_dst (N:=32) rfl ?_);refine Kd.R_make (Kd.int .u8) _ 5 rfl (N:=32) rfl 32 _ _ rfl ((a0.size:Int)+(p:Int)) rfl rfl Tryz.underlying32 (.int .u8 0) 1 Tryz.infoU8 rfl (by decide) (by omega) 0 (ok:=fun _=>True) (okp:=fun _=>True) rfl (fun _ hk=>hk) trivial (by omega) (by omega) (Below.refl _ _) (Nat.le_refl _) ?_;intro v1 w2 ho hb hg_ hnew_;clear hg_ hnew_;have HO1:=Aside0.mk ho;have HB1:=Aside0.mk hb;clear ho hb)
  | ((with_reducible refine gate_builtin (b:=.copy) (xs:=#[.tmp 33,.tmp 34]) rfl ?_);refine R_copy_str _ rfl (.tmp 33) (.tmp 34) 32 9 5 rfl Tryz.underlying32 (info_size Tryz.infoU8) v1 _ a0 (fun _=>True) rfl rfl HO1.out (by rw [List.length_replicate];omega) HB1.out HB1.out.size ?_;intro w3 ho hb;have HO2:=Aside0.mk ho;have HB2:=Aside0.mk hb;clear ho hb))
 clear HP HG HO1
 have HL:Aside0 ((bytesOf a0++(List.replicate ((a0.size:Int)+(p:Int)).toNat 0).drop a0.size)=bytesOf a0++List.replicate p 0):=⟨by rw [List.drop_replicate];congr 2;omega⟩
 obtain ⟨n,hn⟩:∃ n:Nat,n=a0.size:=⟨_,rfl⟩
 have hbl:(bytesOf a0).length=n:=by rw [bytesOf_length,hn]
 have hE1:encI gl p n 0 (bytesOf a0++List.replicate p 0)=encI gl p a0.size 0 (bytesOf a0++List.replicate p 0):=by rw [hn]
 have hbb:bytesB (bytesOf a0++List.replicate p 0)=true:=bytesB_append (bytesB_bytesOf a0) (bytesB_zeros p)
 obtain ⟨R0,hR0⟩:∃ R0,R0=bytesOf a0++List.replicate p 0:=⟨_,rfl⟩
 have hRl:R0.length=n+p:=by rw [hR0,List.length_append,List.length_replicate,hbl]
 rw [HL.out,← hR0] at HO2
 rw [← hR0] at hE1 hbb
 obtain ⟨fin,hfin⟩:∃ fin,fin=encI gl p a0.size 0 R0:=⟨_,rfl⟩
 have HFIN:=hid hfin
 have HE1:=hid (hE1.trans hfin.symm)
 have HBB:=hid hbb
 have HR0:=hid hR0
 have HRL:=hid hRl
 have HN:=hid hn
 have hn1:0<n:=by omega
 have hn2:(n:Int)≤100000:=by omega
 have HSZ:=hid (show (a0.size:Int)=n from by omega)
 clear hbl hE1 hbb hR0 hRl hfin HL hn
 obtain ⟨g1,c1,e1,hg1,hg1',_,_⟩:=Kd.R_form HO2.out (by rw [HRL.out];omega)
 obtain ⟨g2,c2,e2,hg2,hg2',_,_⟩:=Kd.R_form HOG.out (by rw [HGL.out];omega)
 cases e1
 cases e2
 have hgc1:Gc g2 gl w1:=⟨hg2',fun j hj=>by have:=(Kd.R_celln (0:Int) HOG.out (j:Int) (by omega) (by omega)).1;rwa [Int.toNat_natCast] at this⟩
 have hgc:Gc g2 gl w3:=⟨Nat.lt_of_lt_of_le hg2' HB2.out.size,fun j hj=>(HB2.out.cell (p:=⟨g2,j,none⟩) hg2').trans (hgc1.2 j hj)⟩
 have HGC:=Aside0.mk hgc
 have gne:g2≠g1:=by omega
 have hbw:Below w.heap.size w w3:=((pw_below_drewN (Below.refl _ _) nd).trans (HBG.out.mono (by simp [World.drewN]))).trans (HB2.out.mono (Nat.le_trans (by simp [World.drewN]) HBG.out.size))
 have hw1:w.heap.size≤w1.heap.size:=Nat.le_trans (by simp [World.drewN]) HBG.out.size
 have HBW:=Aside0.mk hbw
 clear hgc1 hgc HOG HBG HB1 HB2 hbw
 rw [HRL.out,HGL.out,HSZ.out]
 go_loopg [38] n (fun kq v38 w'=>∃ (i:Nat) (l:List Int),v38=.int .i64 i∧i+kq=n∧Aside0 (encI gl p (n-i) i l=fin)∧Aside0 (l.length=n+p)∧Aside0 (bytesB l=true)∧Aside0 (Kd.R (Kd.int .u8) 5 w' w.heap.size (fun _=>True) (.slice (some ⟨g1,0,none⟩) (n+p) c1) l)∧Aside0 (Gc g2 gl w')∧Aside0 (Below w.heap.size w w'))
 case atStart=>exact ⟨0,R0,rfl,by omega,⟨HE1.out⟩,⟨HRL.out⟩,⟨HBB.out⟩,⟨Kd.R_lower (by have:=HO2.out;rwa [HRL.out] at this) hw1⟩,HGC,HBW⟩
 case round =>
  clear HO2 HGC HBW hg2'
  obtain ⟨i,l,rfl,hi,HT,HL,HLB,HO,HGC,HB⟩:=hrel
  by_cases hlt:i<n
  ·have d2:decide ((i:Int)<(n:Int))=true:=decide_eq_true (by omega)
   obtain ⟨hc9,_⟩:=Kd.R_celln 0 HO.out (i:Int) (by omega) (by omega)
   rw [Int.toNat_natCast] at hc9
   obtain ⟨ld,hld⟩:∃ ld,ld=rdOf 0 l (i:Int):=⟨_,rfl⟩
   rw [← hld] at hc9
   have HLD0:=hid hld
   have HLD:=hid (show in8 ld=true by rw [hld];exact bytesB_rd HLB.out i (by rw [HL.out];omega))
   clear hld
   have i1:(i:Int)<(n:Int)+(p:Int):=by omega
   have i0:(0:Int)≤(i:Int):=by omega
   go_wp2
   clear hc9
   go_loopg [46] p (fun kq v46 w'=>∃ (k:Nat) (l:List Int),v46=.int .i64 k∧k+kq=p∧Aside0 (encI gl p (n-(i+1)) (i+1) (encK gl p i ld (p-k) k l)=fin)∧Aside0 (l.length=n+p)∧Aside0 (bytesB l=true)∧Aside0 (Kd.R (Kd.int .u8) 5 w' w.heap.size (fun _=>True) (.slice (some ⟨g1,0,none⟩) (n+p) c1) l)∧Aside0 (Gc g2 gl w')∧Aside0 (Below w.heap.size w w'))
   case atStart=>exact ⟨0,l,rfl,by omega,⟨by have h:=HT.out;rw [show n-i=(n-(i+1))+1 from by omega] at h;rw [HLD0.out];exact h⟩,HL,HLB,HO,HGC,HB⟩
   case round =>
    clear HT HL HLB HO HGC HB
    obtain ⟨k,l,rfl,hk,HT,HL,HLB,HO,HGC,HB⟩:=hrel
    by_cases hkt:k<p
    ·have d3:decide ((k:Int)<(p:Int))=true:=decide_eq_true (by omega)
     obtain ⟨hz0,hf0⟩:=Kd.R_celln 0 HO.out ((i+1+k:Nat):Int) (by omega) (by omega)
     rw [Int.toNat_natCast] at hz0 hf0
     obtain ⟨q,hq⟩:∃ q:Nat,q=p-1-k:=⟨_,rfl⟩
     have hqg:=HGC.out.2 q (by rw [HGL.out];omega)
     have X1:=Aside0.mk (show World.cell? wr.drew _=_ from hz0)
     have X2:=Aside0.mk (show World.cell? wr.drew _=_ from hqg)
     have X3:=Aside0.mk (show World.frozen? wr.drew _=_ from hf0)
     clear hz0 hf0 hqg
     have e0:(0:Int)≤(i:Int)+1+(k:Int):=by omega
     have e1:(i:Int)+1+(k:Int)<(n:Int)+(p:Int):=by omega
     have e2:((i:Int)+1+(k:Int)).toNat=i+1+k:=by omega
     have e3:(0:Int)≤(p:Int)-1-(k:Int):=by omega
     have e4:(p:Int)-1-(k:Int)<(p:Int)+1:=by omega
     have e5:((p:Int)-1-(k:Int)).toNat=q:=by omega
     have hqp:q+1≤p:=by omega
     have e6:(k:Int)≤(p:Int)-1:=by omega
     have HQ:=hid hq
     have HGN:Hid (q<gl.length):=by show _<_;rw [HGL.out];omega
     clear hq
     go_wp2
     obtain ⟨y1,y2,y3,y4⟩:wrap64 ((i:Int)+1)=(i:Int)+1∧wrap64 ((i:Int)+1+(k:Int))=(i:Int)+1+(k:Int)∧wrap64 ((p:Int)-1)=(p:Int)-1∧wrap64 ((p:Int)-1-(k:Int))=(p:Int)-1-(k:Int):=⟨w64_in _ (by omega) (by omega),w64_in _ (by omega) (by omega),w64_in _ (by omega) (by omega),w64_in _ (by omega) (by omega)⟩
     refine start_ (n:=19) (S:=fun w'=>w'.cell? ⟨g1,i+1+k,none⟩=some (.int .u8 (rdOf 0 l ((i+1+k:Nat):Int)))∧w'.cell? ⟨g2,q,none⟩=some (.int .u8 (rd gl q))) (ds:=[18]) #[false,false,false,false,false,false,false,false,false,false,false,false,false,false,false,false,false,false,false] (by kernel_rfl) rfl rfl ⟨X1.out,X2.out⟩ (fun hHeld=>?_)
     refine pure_ (i:=0) (N:=some 49) (v:=?_) (a':=?_) #[true,false,false,false,false,false,false,false,false,false,false,false,false,false,false,false,false,false,false] rfl rfl (by kernel_rfl) (fun _ _ _ h=>h) (Or.inl ⟨by rfl,?_⟩) ?_ ?_
     rotate_left
     ·intro w'
      go_simp
      with_reducible rfl
     rotate_left
     ·simp only [Act.put,sp__,i64_w,i32_w]
      rfl
     refine pure_ (i:=1) (N:=some 50) (v:=?_) (a':=?_) #[true,true,false,false,false,false,false,false,false,false,false,false,false,false,false,false,false,false,false] rfl rfl (by kernel_rfl) (fun _ _ _ h=>h) (Or.inl ⟨by rfl,?_⟩) ?_ ?_
     rotate_left
     ·intro w'
      go_simp
      with_reducible rfl
     rotate_left
     ·simp only [Act.put,sp__,i64_w,i32_w]
      rfl
     refine pure_ (i:=2) (N:=some 51) (v:=?_) (a':=?_) #[true,true,true,false,false,false,false,false,false,false,false,false,false,false,false,false,false,false,false] rfl rfl (by kernel_rfl) (fun _ _ _ h=>h) (Or.inl ⟨by rfl,?_⟩) ?_ ?_
     rotate_left
     ·intro w'
      go_simp
      with_reducible rfl
     rotate_left
     ·simp only [Act.put,sp__,i64_w,i32_w]
      rfl
     refine pure_ (i:=3) (N:=some 52) (v:=?_) (a':=?_) #[true,true,true,true,false,false,false,false,false,false,false,false,false,false,false,false,false,false,false] rfl rfl (by kernel_rfl) (fun _ _ _ h=>h) (Or.inl ⟨by rfl,?_⟩) ?_ ?_
     rotate_left
     ·intro w'
      go_simp
      with_reducible rfl
     rotate_left
     ·simp only [Act.put,sp__,i64_w,i32_w]
      rfl
     refine pure_ (i:=4) (N:=some 53) (v:=?_) (a':=?_) #[true,true,true,true,true,false,false,false,false,false,false,false,false,false,false,false,false,false,false] rfl rfl (by kernel_rfl) (fun _ _ _ h=>h) (Or.inl ⟨by rfl,?_⟩) ?_ ?_
     rotate_left
     ·intro w'
      go_simp
      with_reducible rfl
     rotate_left
     ·simp only [Act.put,sp__,i64_w,i32_w]
      rfl
     refine pure_ (i:=5) (N:=some 54) (v:=?_) (a':=?_) #[true,true,true,true,true,true,false,false,false,false,false,false,false,false,false,false,false,false,false] rfl rfl (by kernel_rfl) (fun _ _ _ h=>h) (Or.inl ⟨by rfl,?_⟩) ?_ ?_
     rotate_left
     ·intro w'
      go_simp
      with_reducible rfl
     rotate_left
     ·simp only [Act.put,sp__,i64_w,i32_w]
      rfl
     refine pure_ (i:=7) (N:=some 56) (v:=?_) (a':=?_) #[true,true,true,true,true,true,false,true,false,false,false,false,false,false,false,false,false,false,false] rfl rfl (by kernel_rfl) (fun _ _ _ h=>h) (Or.inl ⟨by rfl,?_⟩) ?_ ?_
     rotate_left
     ·intro w'
      go_simp
      with_reducible rfl
     rotate_left
     ·simp only [Act.put,sp__,i64_w,i32_w]
      rfl
     refine pure_ (i:=8) (N:=some 57) (v:=?_) (a':=?_) #[true,true,true,true,true,true,false,true,true,false,false,false,false,false,false,false,false,false,false] rfl rfl (by kernel_rfl) (fun _ _ _ h=>h) (Or.inl ⟨by rfl,?_⟩) ?_ ?_
     rotate_left
     ·intro w'
      go_simp
      with_reducible rfl
     rotate_left
     ·simp only [Act.put,sp__,i64_w,i32_w]
      rfl
     refine pure_ (i:=9) (N:=some 58) (v:=?_) (a':=?_) #[true,true,true,true,true,true,false,true,true,true,false,false,false,false,false,false,false,false,false] rfl rfl (by kernel_rfl) (fun _ _ _ h=>h) (Or.inl ⟨by rfl,?_⟩) ?_ ?_
     rotate_left
     ·intro w'
      go_simp
      with_reducible rfl
     rotate_left
     ·simp only [Act.put,sp__,i64_w,i32_w]
      rfl
     refine pure_ (i:=10) (N:=some 59) (v:=?_) (a':=?_) #[true,true,true,true,true,true,false,true,true,true,true,false,false,false,false,false,false,false,false] rfl rfl (by kernel_rfl) (fun _ _ _ h=>h) (Or.inl ⟨by rfl,?_⟩) ?_ ?_
     rotate_left
     ·intro w'
      go_simp
      with_reducible rfl
     rotate_left
     ·simp only [Act.put,sp__,i64_w,i32_w]
      rfl
     refine pure_ (i:=11) (N:=some 60) (v:=?_) (a':=?_) #[true,true,true,true,true,true,false,true,true,true,true,true,false,false,false,false,false,false,false] rfl rfl (by kernel_rfl) (fun _ _ _ h=>h) (Or.inl ⟨by rfl,?_⟩) ?_ ?_
     rotate_left
     ·intro w'
      go_simp
      with_reducible rfl
     rotate_left
     ·simp only [Act.put,sp__,i64_w,i32_w]
      rfl
     refine pure_ (i:=12) (N:=some 61) (v:=?_) (a':=?_) #[true,true,true,true,true,true,false,true,true,true,true,true,true,false,false,false,false,false,false] rfl rfl (by kernel_rfl) (fun _ _ _ h=>h) (Or.inl ⟨by rfl,?_⟩) ?_ ?_
     rotate_left
     ·intro w'
      go_simp
      with_reducible rfl
     rotate_left
     ·simp only [Act.put,sp__,i64_w,i32_w]
      rfl
     refine pure_ (i:=13) (N:=some 62) (v:=?_) (a':=?_) #[true,true,true,true,true,true,false,true,true,true,true,true,true,true,false,false,false,false,false] rfl rfl (by kernel_rfl) (fun _ _ _ h=>h) (Or.inl ⟨by rfl,?_⟩) ?_ ?_
     rotate_left
     ·intro w'
      go_simp
      with_reducible rfl
     rotate_left
     ·simp only [Act.put,sp__,i64_w,i32_w]
      rfl
     refine take_ (i:=6) (N:=some 55) (v:=?_) (a':=?_) #[true,true,true,true,true,true,true,true,true,true,true,true,true,true,false,false,false,false,false] rfl rfl (by kernel_rfl) (fun _ _ _ h=>h) (Or.inl ⟨by rfl,?_⟩) hHeld ?_ ?_
     rotate_left
     ·rintro w' ⟨s0,s1⟩
      go_simp
      with_reducible rfl
     rotate_left
     ·simp only [Act.put,sp__,i64_w,i32_w]
      rfl
     refine take_ (i:=14) (N:=some 63) (v:=?_) (a':=?_) #[true,true,true,true,true,true,true,true,true,true,true,true,true,true,true,false,false,false,false] rfl rfl (by kernel_rfl) (fun _ _ _ h=>h) (Or.inl ⟨by rfl,?_⟩) hHeld ?_ ?_
     rotate_left
     ·rintro w' ⟨s0,s1⟩
      go_simp
      with_reducible rfl
     rotate_left
     ·simp only [Act.put,sp__,i64_w,i32_w]
      rfl
     refine one_ (i:=15) (N:=some 64) #[true,true,true,true,true,true,true,true,true,true,true,true,true,true,true,true,false,false,false] rfl rfl (by kernel_rfl) (by decide) (fun K hK=>?_)
     refine goes_ Tryz.func54 (by kernel_rfl) rfl #[.int .u8 ld,.int .u8 (rd gl q)] (by rfl) rfl rfl (by (try simp only [List.map_toArray,List.map_cons,List.map_nil]);first|done|rfl) ?_
     with_reducible refine (label_mul.calls ld (rd gl q) _ _ (label_mul.some HLD.out (bytesB_rd HGB.out q HGN.out))).mono ?_
     rintro e w2 ⟨rfl,hB⟩
     have B1:=Aside0.mk hB
     clear hB
     have gz:=(B1.out.cell (p:=⟨g1,i+1+k,none⟩) (World.block_lt_of_cell? _ _ X1.out)).trans X1.out
     have gf:=(B1.out.frozen (p:=⟨g1,i+1+k,none⟩) (World.block_lt_of_cell? _ _ X1.out)).trans X3.out
     refine ⟨_,rfl,?_⟩
     refine hK.out _ _ ⟨gz,(B1.out.cell (p:=⟨g2,q,none⟩) (World.block_lt_of_cell? _ _ X2.out)).trans X2.out⟩ (fun hHeld=>?_)
     clear hK K
     refine norm_ (a':=?_) ?_ ?_
     rotate_left
     ·show Act.put _ (some 64) _=_
      simp only [Act.put,sp__,i64_w,i32_w]
      rfl
     refine pure_ (i:=16) (N:=some 65) (v:=?_) (a':=?_) #[true,true,true,true,true,true,true,true,true,true,true,true,true,true,true,true,true,false,false] rfl rfl (by kernel_rfl) (fun _ _ _ h=>h) (Or.inl ⟨by rfl,?_⟩) ?_ ?_
     rotate_left
     ·intro w'
      go_simp
      with_reducible rfl
     rotate_left
     ·simp only [Act.put,sp__,i64_w,i32_w]
      rfl
     refine pure_ (i:=17) (N:=some 66) (v:=?_) (a':=?_) #[true,true,true,true,true,true,true,true,true,true,true,true,true,true,true,true,true,true,false] rfl rfl (by kernel_rfl) (fun _ _ _ h=>h) (Or.inl ⟨by rfl,?_⟩) ?_ ?_
     rotate_left
     ·intro w'
      go_simp
      with_reducible rfl
     rotate_left
     ·simp only [Act.put,sp__,i64_w,i32_w]
      rfl
     refine last_ (i:=18) (N:=none) #[true,true,true,true,true,true,true,true,true,true,true,true,true,true,true,true,true,true,true] rfl rfl (by kernel_rfl) (by decide) (fun K hK=>?_)
     refine skip_ (w1:=?_) (by rfl) rfl ?_ ?_
     rotate_left
     ·go_simp
      rfl
     refine hK.out _ _ ?_
     clear hK K
     refine done_ (by kernel_rfl) ?_
     clear y1 y2 y3 y4
     try go_wp2
     go_roundg (p-(k+1))
     case rel =>
      refine ⟨k+1,l.set (i+1+k) (Go.bits .xor .u8 (rd l (i+1+k:Nat)) (Rs.mulN ld.toNat (rd gl q).toNat:Nat)),by go_num,by omega,⟨?_⟩,⟨by rw [List.length_set];exact HL.out⟩,⟨?_⟩,⟨?_⟩,⟨?_⟩,⟨?_⟩⟩
      ·have h:=HT.out
       rw [show p-k=(p-(k+1))+1 from by omega] at h
       rw [HQ.out]
       exact h
      ·exact bytesB_set HLB.out _ (xor_in8 (bytesB_rd HLB.out _ (by rw [HL.out];omega)) mulN_in)
      ·have h:=Kd.R_putn (Kd.R_below (Kd.R_drew HO.out) B1.out) ((i+1+k:Nat):Int) (Go.bits .xor .u8 (rd l (i+1+k:Nat)) (Rs.mulN ld.toNat (rd gl q).toNat:Nat))
       rw [Int.toNat_natCast] at h
       exact h
      ·exact ((show Gc g2 gl wr.drew from HGC.out).below B1.out).far (by exact gne) _
      ·exact (((show Below w.heap.size w wr.drew from HB.out.drew)).trans (B1.out.mono HB.out.size)).setCell (by dsimp only;omega) _
     case measure=>omega
    ·have d3:decide ((k:Int)<(p:Int))=false:=decide_eq_false (by omega)
     go_wp2
     go_roundg (n-(i+1))
     case rel=>exact ⟨i+1,l,by go_num,by omega,⟨by have h:=HT.out;rw [show p-k=0 from by omega] at h;exact h⟩,HL,HLB,HO,HGC,HB⟩
     case measure=>omega
  ·have d2:decide ((i:Int)<(n:Int))=false:=decide_eq_false (by omega)
   obtain rfl:i=n:=by omega
   obtain ⟨i0,hi0,_,hsz,_⟩:=info_parts Tryz.infoU8
   have hR:=Kd.R_reads' HO.out
   have hcut:=cut_from (P:=Tryz.prog) 32 5 .i64 Tryz.underlying32 hi0 1 hsz (some ⟨g1,0,none⟩) (i+p) c1 (a0.size:Int) (by omega) (by have:=HSZ.out;omega)
   rw [Int.toNat_natCast] at hcut
   have hr:=Kd.C_drop (k:=Kd.int .u8) (m:=a0.size) (c:=c1) hR.2.2 (by have:=HSZ.out;omega) (by omega)
   obtain ⟨A1,hA1⟩:∃ A1,A1=(if c1=a0.size then (some ⟨g1,0,none⟩:Option Addr) else (some ⟨g1,0,none⟩:Option Addr).map (·.add (a0.size*1))):=⟨_,rfl⟩
   obtain ⟨m1,hm1⟩:∃ m1,m1=i+p-a0.size:=⟨_,rfl⟩
   obtain ⟨m2,hm2⟩:∃ m2,m2=c1-a0.size:=⟨_,rfl⟩
   rw [← hA1,← hm1,← hm2] at hcut
   have hl1:(l.drop a0.size).length=m1:=by rw [List.length_drop,hm1,← hR.1]
   have hr' : (Kd.int .u8).C wr A1 m1 (l.drop a0.size):=by rw [hl1] at hr;rw [hA1];exact hr
   have hcv:=Kd.C_string (P:=Tryz.prog) (A:=A1) (c:=m2) Tryz.underlying32 Tryz.underlying5 Tryz.underlying9 hr'
   have HRr:=hid hr'
   have hn3:(a0.size:Int)≤(i:Int)+p:=by have:=HSZ.out;omega
   have hzs:(strOfNums (l.drop a0.size)).size≤1000000:=by rw [strOfNums_size,List.length_drop,HL.out];omega
   have hza:a0.size≤100000:=by omega
   clear hr hr' hl1 hm1 hm2 hA1 hR hi0 hsz
   go_wp2
   go_ret2
   have ee:encI gl p a0.size 0 (bytesOf a0++List.replicate p 0)=l:=by rw [← HR0.out,← HFIN.out,← HT.out,Nat.sub_self];rfl
   refine ⟨?_,HB.out⟩
   rw [ee]
   rfl
theorem label_Encode.calls (k:Nat) (a0:ByteArray) (a1:Int) (r1:ByteArray) (r2:Int) (w:World) (h:label_Encode.f k a0 a1=some (r1,r2)) :
  Calls Tryz.prog 27 #[.string a0,.int .i64 a1] w fun e w'=>e=.returned (.tuple #[.string r1,.int .i64 r2])∧Below w.heap.size w w':=by
 unfold label_Encode.f at h
 by_cases h0:a1<0
 ·rw [if_pos h0] at h
  cases h
  exact enc_bad a0 a1 w (.inl h0)
 ·rw [if_neg h0] at h
  by_cases h1:a1 > 64
  ·rw [if_pos h1] at h
   cases h
   exact enc_bad a0 a1 w (.inr h1)
  ·rw [if_neg h1] at h
   obtain ⟨t,ht,h⟩:=Option.bind_eq_some_iff.mp h
   cases t with
   | false =>
    rw [if_neg (by simp)] at h
    cases h
    exact enc_no a0 a1 w (by omega) (by omega) ht
   | true =>
    rw [if_pos rfl] at h
    obtain ⟨g,hg,h⟩:=Option.bind_eq_some_iff.mp h
    by_cases hc:bytesB g=true∧(g.length:Int)=a1+1∧a0.size≤100000∧0<a0.size
    ·rw [if_pos hc] at h
     obtain ⟨c1,c2,c3,c4⟩:=hc
     obtain ⟨p,rfl⟩:=Int.eq_ofNat_of_zero_le (show 0≤a1 by omega)
     rw [Int.toNat_natCast] at h
     cases h
     exact enc_walk k a0 p g w (by omega) ht hg c1 (by omega) (by omega) (by omega)
    ·rw [if_neg hc] at h;exact absurd h (by simp)
end Go.Proofs.YtiioklboaookiaaGreatDoor.Q
namespace Go.Proofs.YtiioklboaookiaaGreatDoor.Q
open Go.RowKit Go.Proofs.YtiioklboaookiaaGreatDoorW.PrintWords Go.Proofs.YtiioklboaookiaaGreatDoorW.PrintLast Go.Proofs.YtiioklboaookiaaGreatDoor.Hand Go.Proofs.YtiioklboaookiaaGreatDoorW.PrintMore
attribute [local go_sem] max2_int min2_int max_two min_two max_three min_three max_four min_four
set_option linter.unusedVariables false
set_option linter.unusedSimpArgs false
def cmp_isNaN_int.f (a0:Int):Option (Bool):=some (a0 != a0)
set_option maxHeartbeats 8000000 in
set_option maxRecDepth 100000 in
theorem cmp_isNaN_int.calls (a0:Int) (r:Bool) (w:World) (h:cmp_isNaN_int.f a0=some r) :
  Calls Tryz.prog 132 #[.int .i64 a0] w fun e w'=>e=.returned (.bool r)∧Drawn0 w w':=by
 have H:(some (a0 != a0))=some r:=h
 clear h
 obtain rfl:=Option.some.inj H
 go_enter Tryz.func132,Tryz.ntmps132
 go_wp2
 go_ret
 exact ⟨by first|rfl|(simp;done)|(simp [*];done),by repeat (first|exact Drawn0.refl _|apply Drawn0.step)⟩
end Go.Proofs.YtiioklboaookiaaGreatDoor.Q
