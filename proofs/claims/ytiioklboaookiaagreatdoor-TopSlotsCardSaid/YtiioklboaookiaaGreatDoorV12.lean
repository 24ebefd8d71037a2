/- A part of the proof: what the law's row needs. -/
import Derived.Deep.QuietTactic
import Derived.BigQuiet
import Derived.Test.YtiioklboaookiaaGreatDoorV11
namespace Go.Proofs.YtiioklboaookiaaGreatDoor.Q
open Go.RowKit Go.Proofs.YtiioklboaookiaaGreatDoorW.PrintWords Go.Proofs.YtiioklboaookiaaGreatDoorW.PrintLast Go.Proofs.YtiioklboaookiaaGreatDoor.Hand Go.Proofs.YtiioklboaookiaaGreatDoorW.PrintMore
attribute [local go_sem] max2_int min2_int max_two min_two max_three min_three max_four min_four
set_option linter.unusedVariables false
set_option linter.unusedSimpArgs false
theorem has_no {x0 x1 y0 y1 z0 z1:Int} (h:plane_turn.f x0 x1 y0 y1 z0 z1=some 1):plane_segment_has.f x0 x1 y0 y1 z0 z1=some false:=by
 unfold plane_segment_has.f
 rw [h,Option.bind_some,if_neg (by decide)]
theorem meets_no {x0 x1 y0 y1 z0 z1 u0 u1:Int} (h1:plane_turn.f x0 x1 y0 y1 z0 z1=some 1) (h2:plane_turn.f x0 x1 y0 y1 u0 u1=some 1) (h3:plane_turn.f z0 z1 u0 u1 x0 x1=some 1) (h4:plane_turn.f z0 z1 u0 u1 y0 y1=some 1) (k:Nat) :
  plane_segment_meets.f (k+1) x0 x1 y0 y1 z0 z1 u0 u1=some false:=by
 unfold plane_segment_meets.f
 rw [has_no h1,Option.bind_some,if_neg (by decide),has_no h2,Option.bind_some,if_neg (by decide),has_no h3,Option.bind_some,if_neg (by decide),has_no h4,Option.bind_some,plane_segment_meets.j0,if_neg (by decide),h1,Option.bind_some,h2,Option.bind_some]
 rw [if_neg (by rw [w64_in _ (by decide) (by decide)];decide)]
theorem turn_one {x0 x1 y0 y1 z0 z1 m:Int} (hm:0<m) (hx0 : -4096≤x0∧x0≤4096) (hx1 : -4096≤x1∧x1≤4096) (hy0 : -4096≤y0∧y0≤4096) (hy1 : -4096≤y1∧y1≤4096) (hz0 : -4096≤z0∧z0≤4096) (hz1 : -4096≤z1∧z1≤4096)
  (h:(y0-x0)*(z1-x1)-(y1-x1)*(z0-x0)=m):plane_turn.f x0 x1 y0 y1 z0 z1=some 1:=by
 rw [turn_eq hx0 hx1 hy0 hy1 hz0 hz1,h,cmpI_pos hm]
set_option maxRecDepth 100000 in
theorem simple_rect {a b c d:Int} (hr:RectOk a b c d):plane_Simple.f 40 (rect a b c d)=some true:=by
 obtain ⟨h1,h2,h3,h4,h5,h6⟩:=hr
 have hp:0<(c-a)*(d-b):=Int.mul_pos (by omega) (by omega)
 have ba : -4096≤a∧a≤4096:=by omega
 have bb : -4096≤b∧b≤4096:=by omega
 have bc : -4096≤c∧c≤4096:=by omega
 have bd : -4096≤d∧d≤4096:=by omega
 have t012:plane_turn.f a b c b c d=some 1:=turn_one hp ba bb bc bb bc bd (by grind)
 have t013:plane_turn.f a b c b a d=some 1:=turn_one hp ba bb bc bb ba bd (by grind)
 have t123:plane_turn.f c b c d a d=some 1:=turn_one hp bc bb bc bd ba bd (by grind)
 have t120:plane_turn.f c b c d a b=some 1:=turn_one hp bc bb bc bd ba bb (by grind)
 have t230:plane_turn.f c d a d a b=some 1:=turn_one hp bc bd ba bd ba bb (by grind)
 have t231:plane_turn.f c d a d c b=some 1:=turn_one hp bc bd ba bd bc bb (by grind)
 have t301:plane_turn.f a d a b c b=some 1:=turn_one hp ba bd ba bb bc bb (by grind)
 have t302:plane_turn.f a d a b c d=some 1:=turn_one hp ba bd ba bb bc bd (by grind)
 have e0:plane_edge.f (rect a b c d) 0=some (a,b,c,b):=edge_eq (l:=rect a b c d) rfl (i:=0) (by decide)
 have e1:plane_edge.f (rect a b c d) 1=some (c,b,c,d):=edge_eq (l:=rect a b c d) rfl (i:=1) (by decide)
 have e2:plane_edge.f (rect a b c d) 2=some (c,d,a,d):=edge_eq (l:=rect a b c d) rfl (i:=2) (by decide)
 have e3:plane_edge.f (rect a b c d) 3=some (a,d,a,b):=edge_eq (l:=rect a b c d) rfl (i:=3) (by decide)
 have hl:((rect a b c d).length:Int)=4:=rfl
 have hset:plane_isSet.f (rect a b c d)=some true:=by
  unfold plane_isSet.f
  rw [if_pos]
  refine ⟨by simp,by simp,List.all_eq_true.2 fun x hx=>ptIn_ok (rect_in ⟨h1,h2,h3,h4,h5,h6⟩ x hx)⟩
 have wr:∀ x:Int,-1000000≤x→x≤1000000→wrap64 x=x:=fun x hx hy=>w64_in x hx hy
 have n0:(a == c && b == b)=false:=by simp;omega
 have n1:(c == c && b == d)=false:=by simp;omega
 have n2:(c == a && d == d)=false:=by simp;omega
 have n3:(a == a && d == b)=false:=by simp;omega
 unfold plane_Simple.f
 rw [hl,if_neg (by decide),hset,Option.bind_some,plane_Simple.j0,if_neg (by decide)]
 rw [plane_Simple.l0,if_pos (by decide),e0,Option.bind_some,if_neg (by decide),wr (0+1) (by decide) (by decide),show Int.tmod (0+1) 4=1 from rfl,e1,Option.bind_some]
 dsimp only
 rw [n0,if_neg (by decide),has_no t120,Option.bind_some,if_neg (by decide),has_no t012,Option.bind_some,plane_Simple.j2,if_neg (by decide),wr (0+2) (by decide) (by decide)]
 rw [plane_Simple.l1,if_pos (by decide),if_neg (by decide),wr (0+2+1) (by decide) (by decide),if_neg (by decide),show (0+2:Int)=2 from rfl,e2,Option.bind_some]
 dsimp only
 rw [meets_no t012 t013 t230 t231,Option.bind_some,if_neg (by decide)]
 rw [plane_Simple.l1,if_pos (by decide),if_neg (by decide),wr (2+1+1) (by decide) (by decide),if_pos (by decide)]
 rw [plane_Simple.l1,if_neg (by decide)]
 rw [wr (0+1) (by decide) (by decide),show (0+1:Int)=1 from rfl,plane_Simple.l0,if_pos (by decide),e1,Option.bind_some,if_neg (by decide),wr (1+1) (by decide) (by decide),show Int.tmod (1+1) 4=2 from rfl,e2,Option.bind_some]
 dsimp only
 rw [n1,if_neg (by decide),has_no t231,Option.bind_some,if_neg (by decide),has_no t123,Option.bind_some,plane_Simple.j2,if_neg (by decide),wr (1+2) (by decide) (by decide)]
 rw [plane_Simple.l1,if_pos (by decide),if_neg (by decide),wr (1+2+1) (by decide) (by decide),if_neg (by decide),show (1+2:Int)=3 from rfl,e3,Option.bind_some]
 dsimp only
 rw [meets_no t123 t120 t301 t302,Option.bind_some,if_neg (by decide)]
 rw [plane_Simple.l1,if_neg (by decide)]
 rw [wr (1+1) (by decide) (by decide),show (1+1:Int)=2 from rfl,plane_Simple.l0,if_pos (by decide),e2,Option.bind_some,if_neg (by decide),wr (2+1) (by decide) (by decide),show Int.tmod (2+1) 4=3 from rfl,e3,Option.bind_some]
 dsimp only
 rw [n2,if_neg (by decide),has_no t302,Option.bind_some,if_neg (by decide),has_no t230,Option.bind_some,plane_Simple.j2,if_neg (by decide),wr (2+2) (by decide) (by decide)]
 rw [plane_Simple.l1,if_neg (by decide)]
 rw [wr (2+1) (by decide) (by decide),show (2+1:Int)=3 from rfl,plane_Simple.l0,if_pos (by decide),e3,Option.bind_some,if_neg (by decide),wr (3+1) (by decide) (by decide),show Int.tmod (3+1) 4=0 from rfl,e0,Option.bind_some]
 dsimp only
 rw [n3,if_neg (by decide),has_no t013,Option.bind_some,if_neg (by decide),has_no t301,Option.bind_some,plane_Simple.j2,if_neg (by decide),wr (3+2) (by decide) (by decide)]
 rw [plane_Simple.l1,if_neg (by decide)]
 rw [wr (3+1) (by decide) (by decide),plane_Simple.l0,if_neg (by decide)]
theorem Simple_rect {a b c d:Int} (hr:RectOk a b c d) (g cap:Nat) (w:World) (hc:4≤cap) (h:Kd.C k159 w (some ⟨g,0,none⟩) 4 (rect a b c d)) :
  Calls Tryz.prog 46 #[.slice (some ⟨g,0,none⟩) 4 cap] w fun e w'=>e=.returned (.bool true)∧Below w.heap.size w w' :=
 plane_Simple.calls 40 (some ⟨g,0,none⟩) cap (rect a b c d) true w h hc (simple_rect hr)
end Go.Proofs.YtiioklboaookiaaGreatDoor.Q
namespace Go.Proofs.YtiioklboaookiaaGreatDoor.Q
open Go.RowKit Go.Proofs.YtiioklboaookiaaGreatDoorW.PrintWords Go.Proofs.YtiioklboaookiaaGreatDoorW.PrintLast Go.Proofs.YtiioklboaookiaaGreatDoor.Hand Go.Proofs.YtiioklboaookiaaGreatDoorW.PrintMore
attribute [local go_sem] max2_int min2_int max_two min_two max_three min_three max_four min_four
set_option linter.unusedVariables false
set_option linter.unusedSimpArgs false
abbrev Bx:=S67
def BoxOk (x:Bx):Prop:=0≤x.f0∧1≤x.f2∧x.f0+x.f2≤1000∧0≤x.f1∧1≤x.f3∧x.f1+x.f3≤1000
def ApartB (x y:Bx):Prop:=x.f0+x.f2≤y.f0∨y.f0+y.f2≤x.f0∨x.f1+x.f3≤y.f1∨y.f1+y.f3≤x.f1
abbrev bxR (x:Bx):List Pt:=rect (3*x.f0+1) (3*x.f1+1) (3*(x.f0+x.f2)-1) (3*(x.f1+x.f3)-1)
theorem BoxOk.rect {x:Bx} (h:BoxOk x):RectOk (3*x.f0+1) (3*x.f1+1) (3*(x.f0+x.f2)-1) (3*(x.f1+x.f3)-1):=by
 obtain ⟨h1,h2,h3,h4,h5,h6⟩:=h
 unfold RectOk;omega
theorem ApartB.gap {x y:Bx} (hx:BoxOk x) (hy:BoxOk y) (h:ApartB x y):GapOk (3*x.f0+1) (3*x.f1+1) (3*(x.f0+x.f2)-1) (3*(x.f1+x.f3)-1) (3*y.f0+1) (3*y.f1+1) (3*(y.f0+y.f2)-1) (3*(y.f1+y.f3)-1):=by
 unfold ApartB at h;unfold GapOk;omega
theorem corn_eq {x:Bx} (h:BoxOk x):silversidetop_corners.f x.f0 x.f1 x.f2 x.f3 x.f4=some (bxR x):=by
 obtain ⟨h1,h2,h3,h4,h5,h6⟩:=h
 unfold silversidetop_corners.f
 rw [w64_in (x.f0+x.f2) (by omega) (by omega),w64_in (x.f1+x.f3) (by omega) (by omega),w64_in (3*x.f0) (by omega) (by omega),w64_in (3*x.f1) (by omega) (by omega),w64_in (3*(x.f0+x.f2)) (by omega) (by omega),w64_in (3*(x.f1+x.f3)) (by omega) (by omega),
  w64_in (3*x.f0+1) (by omega) (by omega),w64_in (3*x.f1+1) (by omega) (by omega),w64_in (3*(x.f0+x.f2)-1) (by omega) (by omega),w64_in (3*(x.f1+x.f3)-1) (by omega) (by omega)]
theorem corn_call {x:Bx} (h:BoxOk x) (w:World):Calls Tryz.prog 45 #[.agg #[.int .i64 x.f0,.int .i64 x.f1,.int .i64 x.f2,.int .i64 x.f3,.int .i64 x.f4]] w fun e w'=>∃ g c,e=.returned (.slice (some ⟨g,0,none⟩) 4 c)∧4≤c∧Kd.C k159 w' (some ⟨g,0,none⟩) 4 (bxR x)∧Below w.heap.size w w':=by
 refine (silversidetop_corners.calls x.f0 x.f1 x.f2 x.f3 x.f4 (bxR x) w (corn_eq h)).mono ?_
 rintro e w' ⟨v,rfl,hr,hb⟩
 obtain ⟨g,c,rfl,_,_,hc⟩:=R_own hr 3 rfl
 refine ⟨g,c,rfl,hc,?_,hb⟩
 obtain ⟨A',c',he,_,hC⟩:=Kd.R_reads hr
 cases he;exact hC
def BxCells (w:World) (g k:Nat) (x:Bx):Prop:=w.cell? ⟨g,k*5,none⟩=some (.int .i64 x.f0)∧w.cell? ⟨g,k*5+1,none⟩=some (.int .i64 x.f1)∧w.cell? ⟨g,k*5+2,none⟩=some (.int .i64 x.f2)∧w.cell? ⟨g,k*5+3,none⟩=some (.int .i64 x.f3)∧w.cell? ⟨g,k*5+4,none⟩=some (.int .i64 x.f4)
theorem bx_cells {w:World} {g n:Nat} {l:List Bx} (h:Kd.C k67 w (some ⟨g,0,none⟩) n l) (k:Nat) (hk:k<n):BxCells w g k (rd_T67 l (k:Int)):=by
 obtain ⟨ad,e0,h0,h1,h2,h3,h4⟩:=at_T67 h (k:Int) (by omega) (by omega)
 cases e0
 rw [Int.toNat_natCast] at h0 h1 h2 h3 h4
 simp only [add_plain] at h0 h1 h2 h3 h4
 exact ⟨h0,h1,h2,h3,h4⟩
set_option maxHeartbeats 8000000 in
set_option maxRecDepth 100000 in
theorem apart_walk (l:List Bx) (gb c0:Nat) (w:World) (hl:l.length≤1000000) (hC:Kd.C k67 w (some ⟨gb,0,none⟩) l.length l) (hok:∀ k,k<l.length→BoxOk (rd_T67 l (k:Int)))
  (hap:∀ k i,k<i→i<l.length→ApartB (rd_T67 l (i:Int)) (rd_T67 l (k:Int))) :
  Calls Tryz.prog 23 #[.slice (some ⟨gb,0,none⟩) l.length c0] w fun e w'=>e=.returned (.bool true)∧Below w.heap.size w w':=by
 have HC:=Aside0.mk hC
 have HOK:=hid hok
 have HAP:=hid hap
 obtain ⟨n,hn⟩:∃ n,n=l.length:=⟨_,rfl⟩
 rw [← hn] at HC hl HOK HAP ⊢
 have HB0:Aside0 (Below w.heap.size w w):=⟨Below.refl _ _⟩
 clear hC hok hap hn
 go_enter Tryz.func23,Tryz.ntmps23
 go_wp2_with (fail)
 go_loopg [3] n (fun kq v3 w'=>∃ i:Nat,v3=.int .i64 i∧i+kq=n∧Aside0 (Below w.heap.size w w'))
 case atStart=>exact ⟨0,rfl,by omega,HB0⟩
 case round =>
  clear HB0
  obtain ⟨i,rfl,hi,HB⟩:=hrel
  by_cases hlt:i<n
  ·have d1:decide ((i:Int)<(n:Int))=true:=decide_eq_true (by omega)
   by_cases h24:i<24
   ·have d2:decide ((i:Int)<24)=true:=decide_eq_true (by omega)
    have i24:(i:Int)<24:=by omega
    have i0:(0:Int)≤(i:Int):=by omega
    have i1:(i:Int)<(n:Int):=by omega
    have hcs:=bx_cells (Kd.C_below HC.out HB.out) i hlt
    have HXO:=hid (HOK.out i hlt)
    obtain ⟨x,hx⟩:∃ x,x=rd_T67 l (i:Int):=⟨_,rfl⟩
    rw [← hx] at hcs HXO
    have HX:=hid hx
    obtain ⟨x0,x1,x2,x3,x4⟩:=hcs
    have HLT:=hid hlt
    clear hx
    go_wp2_with (fail)
    refine (corn_call HXO.out _).mono ?_
    rintro e w1 ⟨g1,c1,rfl,hc1,hC1,hb1⟩
    have HC1:=Aside0.mk hC1
    have HB1:=Aside0.mk (HB.out.trans (hb1.mono HB.out.size))
    clear x0 x1 x2 x3 x4 hC1 hb1 HB
    go_wp2_with (fail)
    refine (Simple_rect HXO.out.rect g1 c1 _ hc1 HC1.out).mono ?_
    rintro e w2 ⟨rfl,hb2⟩
    have HC2:=Aside0.mk (Kd.C_below HC1.out hb2)
    have HB2:=Aside0.mk (HB1.out.trans (hb2.mono HB1.out.size))
    clear hb2 HC1 HB1
    go_wp2_with (fail)
    have HBI0:Aside0 (Below w2.heap.size w2 w2):=⟨Below.refl _ _⟩
    go_loopg [5] i (fun kq v5 w'=>∃ k:Nat,v5=.int .i64 k∧k+kq=i∧Aside0 (Below w2.heap.size w2 w'))
    case atStart=>exact ⟨0,rfl,by omega,HBI0⟩
    case round =>
     clear HBI0
     obtain ⟨k,rfl,hk,HBI⟩:=hrel
     by_cases hki:k<i
     ·have d3:decide ((k:Int)<(i:Int))=true:=decide_eq_true (by omega)
      have k0:(0:Int)≤(k:Int):=by omega
      have k1:(k:Int)<(n:Int):=by omega
      have hkn:k<n:=by omega
      have HBW:=Aside0.mk (HB2.out.trans (HBI.out.mono HB2.out.size))
      have hcs:=bx_cells (Kd.C_below HC.out HBW.out) k hkn
      have HYO:=hid (HOK.out k hkn)
      have HG:=hid (HAP.out k i hki HLT.out)
      obtain ⟨y,hy⟩:∃ y,y=rd_T67 l (k:Int):=⟨_,rfl⟩
      rw [← hy] at hcs HYO HG
      rw [← HX.out] at HG
      have HY:=hid hy
      have HYC:=hid hcs
      obtain ⟨x0,x1,x2,x3,x4⟩:=hcs
      have HLT2:=hid hki
      clear hy
      go_wp2_with (fail)
      refine (corn_call HYO.out _).mono ?_
      rintro e w3 ⟨g3,c3,rfl,hc3,hC3,hb3⟩
      have HC3:=Aside0.mk hC3
      have HB3:=Aside0.mk (HBI.out.trans (hb3.mono HBI.out.size))
      clear x0 x1 x2 x3 x4 hC3 hb3 HBW
      go_wp2_with (fail)
      refine (Separate_walk _ _ _ _ _ _ _ _ HXO.out.rect HYO.out.rect (HG.out.gap HXO.out HYO.out) g1 c1 g3 c3 _ hc1 hc3 (Kd.C_below HC2.out HB3.out) HC3.out).mono ?_
      rintro e w4 ⟨U,V,W,rfl,hsep,hb4⟩
      have HSEP:=hid hsep
      have HB4:=Aside0.mk (show Below w2.heap.size w2 (w4.alloc (.cells #[.bool false,.int .i64 0,.int .i64 0,.int .i64 0,.int .i64 U,.int .i64 V,.int .i64 W] 137)) from (HB3.out.trans (hb4.mono HB3.out.size)).alloc (HB3.out.trans (hb4.mono HB3.out.size)).size _)
      clear hsep hb4 HC3 HB3 HBI
      have hab:=blk_new w4 (.cells #[.bool false,.int .i64 0,.int .i64 0,.int .i64 0,.int .i64 U,.int .i64 V,.int .i64 W] 137)
      obtain ⟨W4,hW4⟩:∃ W4,W4=w4.alloc (.cells #[.bool false,.int .i64 0,.int .i64 0,.int .i64 0,.int .i64 U,.int .i64 V,.int .i64 W] 137):=⟨_,rfl⟩
      obtain ⟨ab,hAB⟩:∃ ab,ab=w4.heap.size:=⟨_,rfl⟩
      rw [← hW4] at hab HB4
      rw [← hAB] at hab
      have hbz:=bx_cells (Kd.C_below HC.out (HB2.out.trans (HB4.out.mono HB2.out.size))) k hkn
      rw [← HY.out] at hbz
      have HS:=hid (show (fun w' : World=>w'.cell? ⟨ab,0,none⟩=some (.bool false)∧w'.cell? ⟨ab,1,none⟩=some (.int .i64 0)∧w'.cell? ⟨ab,2,none⟩=some (.int .i64 0)∧w'.cell? ⟨ab,3,none⟩=some (.int .i64 0)∧w'.cell? ⟨ab,4,none⟩=some (.int .i64 U)∧w'.cell? ⟨ab,5,none⟩=some (.int .i64 V)∧w'.cell? ⟨ab,6,none⟩=some (.int .i64 W)∧w'.cell? ⟨gb,k*5,none⟩=some (.int .i64 y.f0)∧w'.cell? ⟨gb,k*5+1,none⟩=some (.int .i64 y.f1)∧w'.cell? ⟨gb,k*5+2,none⟩=some (.int .i64 y.f2)∧w'.cell? ⟨gb,k*5+3,none⟩=some (.int .i64 y.f3)∧w'.cell? ⟨gb,k*5+4,none⟩=some (.int .i64 y.f4)) W4.drew from ⟨(apt_cells hab).1,(apt_cells hab).2.1,(apt_cells hab).2.2.1,(apt_cells hab).2.2.2.1,(apt_cells hab).2.2.2.2.1,(apt_cells hab).2.2.2.2.2.1,(apt_cells hab).2.2.2.2.2.2,hbz.1,hbz.2.1,hbz.2.2.1,hbz.2.2.2.1,hbz.2.2.2.2⟩)
      have HSB:=hid (fun (w' w'' : World) (h:(fun w' : World=>w'.cell? ⟨ab,0,none⟩=some (.bool false)∧w'.cell? ⟨ab,1,none⟩=some (.int .i64 0)∧w'.cell? ⟨ab,2,none⟩=some (.int .i64 0)∧w'.cell? ⟨ab,3,none⟩=some (.int .i64 0)∧w'.cell? ⟨ab,4,none⟩=some (.int .i64 U)∧w'.cell? ⟨ab,5,none⟩=some (.int .i64 V)∧w'.cell? ⟨ab,6,none⟩=some (.int .i64 W)∧w'.cell? ⟨gb,k*5,none⟩=some (.int .i64 y.f0)∧w'.cell? ⟨gb,k*5+1,none⟩=some (.int .i64 y.f1)∧w'.cell? ⟨gb,k*5+2,none⟩=some (.int .i64 y.f2)∧w'.cell? ⟨gb,k*5+3,none⟩=some (.int .i64 y.f3)∧w'.cell? ⟨gb,k*5+4,none⟩=some (.int .i64 y.f4)) w') (hb:Below w'.heap.size w' w'')=>(show (fun w' : World=>w'.cell? ⟨ab,0,none⟩=some (.bool false)∧w'.cell? ⟨ab,1,none⟩=some (.int .i64 0)∧w'.cell? ⟨ab,2,none⟩=some (.int .i64 0)∧w'.cell? ⟨ab,3,none⟩=some (.int .i64 0)∧w'.cell? ⟨ab,4,none⟩=some (.int .i64 U)∧w'.cell? ⟨ab,5,none⟩=some (.int .i64 V)∧w'.cell? ⟨ab,6,none⟩=some (.int .i64 W)∧w'.cell? ⟨gb,k*5,none⟩=some (.int .i64 y.f0)∧w'.cell? ⟨gb,k*5+1,none⟩=some (.int .i64 y.f1)∧w'.cell? ⟨gb,k*5+2,none⟩=some (.int .i64 y.f2)∧w'.cell? ⟨gb,k*5+3,none⟩=some (.int .i64 y.f3)∧w'.cell? ⟨gb,k*5+4,none⟩=some (.int .i64 y.f4)) w'' from ⟨pw_cell_below hb h.1,pw_cell_below hb h.2.1,pw_cell_below hb h.2.2.1,pw_cell_below hb h.2.2.2.1,pw_cell_below hb h.2.2.2.2.1,pw_cell_below hb h.2.2.2.2.2.1,pw_cell_below hb h.2.2.2.2.2.2.1,pw_cell_below hb h.2.2.2.2.2.2.2.1,pw_cell_below hb h.2.2.2.2.2.2.2.2.1,pw_cell_below hb h.2.2.2.2.2.2.2.2.2.1,pw_cell_below hb h.2.2.2.2.2.2.2.2.2.2.1,pw_cell_below hb h.2.2.2.2.2.2.2.2.2.2.2⟩))
      have HB4':=Aside0.mk (show Below w2.heap.size w2 W4.drew from HB4.out.drew)
      clear hab hbz
      go_upto_region 11 with (fail)
      rw [← hW4,← hAB]
      clear hW4 hAB
      go_wp2_with (fail)
      refine start_ (n:=17) (S:=fun w'=>w'.cell? ⟨ab,0,none⟩=some (.bool false)∧w'.cell? ⟨ab,1,none⟩=some (.int .i64 0)∧w'.cell? ⟨ab,2,none⟩=some (.int .i64 0)∧w'.cell? ⟨ab,3,none⟩=some (.int .i64 0)∧w'.cell? ⟨ab,4,none⟩=some (.int .i64 U)∧w'.cell? ⟨ab,5,none⟩=some (.int .i64 V)∧w'.cell? ⟨ab,6,none⟩=some (.int .i64 W)∧w'.cell? ⟨gb,k*5,none⟩=some (.int .i64 y.f0)∧w'.cell? ⟨gb,k*5+1,none⟩=some (.int .i64 y.f1)∧w'.cell? ⟨gb,k*5+2,none⟩=some (.int .i64 y.f2)∧w'.cell? ⟨gb,k*5+3,none⟩=some (.int .i64 y.f3)∧w'.cell? ⟨gb,k*5+4,none⟩=some (.int .i64 y.f4)) (ds:=[]) #[false,false,false,false,false,false,false,false,false,false,false,false,false,false,false,false,false] (by kernel_rfl) rfl rfl HS.out (fun hHeld=>?_)
      refine pure_ (i:=0) (N:=some 41) (v:=?_) (a':=?_) #[true,false,false,false,false,false,false,false,false,false,false,false,false,false,false,false,false] rfl rfl (by kernel_rfl) (fun _ _ _ h=>h) (Or.inl ⟨by rfl,?_⟩) ?_ ?_
      rotate_left
      ·intro w'
       go_simp
       with_reducible rfl
      rotate_left
      ·simp only [Act.put,sp__,i64_w,i32_w]
       rfl
      refine pure_ (i:=1) (N:=some 42) (v:=?_) (a':=?_) #[true,true,false,false,false,false,false,false,false,false,false,false,false,false,false,false,false] rfl rfl (by kernel_rfl) (fun _ _ _ h=>h) (Or.inl ⟨by rfl,?_⟩) ?_ ?_
      rotate_left
      ·intro w'
       go_simp
       with_reducible rfl
      rotate_left
      ·simp only [Act.put,sp__,i64_w,i32_w]
       rfl
      refine pure_ (i:=2) (N:=some 43) (v:=?_) (a':=?_) #[true,true,true,false,false,false,false,false,false,false,false,false,false,false,false,false,false] rfl rfl (by kernel_rfl) (fun _ _ _ h=>h) (Or.inl ⟨by rfl,?_⟩) ?_ ?_
      rotate_left
      ·intro w'
       go_simp
       with_reducible rfl
      rotate_left
      ·simp only [Act.put,sp__,i64_w,i32_w]
       rfl
      refine pure_ (i:=3) (N:=some 44) (v:=?_) (a':=?_) #[true,true,true,true,false,false,false,false,false,false,false,false,false,false,false,false,false] rfl rfl (by kernel_rfl) (fun _ _ _ h=>h) (Or.inl ⟨by rfl,?_⟩) ?_ ?_
      rotate_left
      ·intro w'
       go_simp
       with_reducible rfl
      rotate_left
      ·simp only [Act.put,sp__,i64_w,i32_w]
       rfl
      refine take_ (i:=4) (N:=some 45) (v:=?_) (a':=?_) #[true,true,true,true,true,false,false,false,false,false,false,false,false,false,false,false,false] rfl rfl (by kernel_rfl) (fun _ _ _ h=>h) (Or.inl ⟨by rfl,?_⟩) hHeld ?_ ?_
      rotate_left
      ·rintro w' ⟨s0,s1,s2,s3,s4,s5,s6,s7,s8,s9,s10,s11⟩
       go_simp
       with_reducible rfl
      rotate_left
      ·simp only [Act.put,sp__,i64_w,i32_w]
       rfl
      refine pure_ (i:=5) (N:=some 46) (v:=?_) (a':=?_) #[true,true,true,true,true,true,false,false,false,false,false,false,false,false,false,false,false] rfl rfl (by kernel_rfl) (fun _ _ _ h=>h) (Or.inl ⟨by rfl,?_⟩) ?_ ?_
      rotate_left
      ·intro w'
       go_simp
       with_reducible rfl
      rotate_left
      ·simp only [Act.put,sp__,i64_w,i32_w]
       rfl
      refine pure_ (i:=6) (N:=some 47) (v:=?_) (a':=?_) #[true,true,true,true,true,true,true,false,false,false,false,false,false,false,false,false,false] rfl rfl (by kernel_rfl) (fun _ _ _ h=>h) (Or.inl ⟨by rfl,?_⟩) ?_ ?_
      rotate_left
      ·intro w'
       go_simp
       with_reducible rfl
      rotate_left
      ·simp only [Act.put,sp__,i64_w,i32_w]
       rfl
      refine pure_ (i:=7) (N:=some 48) (v:=?_) (a':=?_) #[true,true,true,true,true,true,true,true,false,false,false,false,false,false,false,false,false] rfl rfl (by kernel_rfl) (fun _ _ _ h=>h) (Or.inl ⟨by rfl,?_⟩) ?_ ?_
      rotate_left
      ·intro w'
       go_simp
       with_reducible rfl
      rotate_left
      ·simp only [Act.put,sp__,i64_w,i32_w]
       rfl
      refine pure_ (i:=8) (N:=some 49) (v:=?_) (a':=?_) #[true,true,true,true,true,true,true,true,true,false,false,false,false,false,false,false,false] rfl rfl (by kernel_rfl) (fun _ _ _ h=>h) (Or.inl ⟨by rfl,?_⟩) ?_ ?_
      rotate_left
      ·intro w'
       go_simp
       with_reducible rfl
      rotate_left
      ·simp only [Act.put,sp__,i64_w,i32_w]
       rfl
      refine pure_ (i:=9) (N:=some 50) (v:=?_) (a':=?_) #[true,true,true,true,true,true,true,true,true,true,false,false,false,false,false,false,false] rfl rfl (by kernel_rfl) (fun _ _ _ h=>h) (Or.inl ⟨by rfl,?_⟩) ?_ ?_
      rotate_left
      ·intro w'
       go_simp
       with_reducible rfl
      rotate_left
      ·simp only [Act.put,sp__,i64_w,i32_w]
       rfl
      refine pure_ (i:=10) (N:=some 51) (v:=?_) (a':=?_) #[true,true,true,true,true,true,true,true,true,true,true,false,false,false,false,false,false] rfl rfl (by kernel_rfl) (fun _ _ _ h=>h) (Or.inl ⟨by rfl,?_⟩) ?_ ?_
      rotate_left
      ·intro w'
       go_simp
       with_reducible rfl
      rotate_left
      ·simp only [Act.put,sp__,i64_w,i32_w]
       rfl
      refine take_ (i:=11) (N:=some 52) (v:=?_) (a':=?_) #[true,true,true,true,true,true,true,true,true,true,true,true,false,false,false,false,false] rfl rfl (by kernel_rfl) (fun _ _ _ h=>h) (Or.inl ⟨by rfl,?_⟩) hHeld ?_ ?_
      rotate_left
      ·rintro w' ⟨s0,s1,s2,s3,s4,s5,s6,s7,s8,s9,s10,s11⟩
       go_simp
       with_reducible rfl
      rotate_left
      ·simp only [Act.put,sp__,i64_w,i32_w]
       rfl
      refine take_ (i:=13) (N:=some 54) (v:=?_) (a':=?_) #[true,true,true,true,true,true,true,true,true,true,true,true,false,true,false,false,false] rfl rfl (by kernel_rfl) (fun _ _ _ h=>h) (Or.inl ⟨by rfl,?_⟩) hHeld ?_ ?_
      rotate_left
      ·rintro w' ⟨s0,s1,s2,s3,s4,s5,s6,s7,s8,s9,s10,s11⟩
       go_simp
       with_reducible rfl
      rotate_left
      ·simp only [Act.put,sp__,i64_w,i32_w]
       rfl
      refine one_ (i:=12) (N:=some 53) #[true,true,true,true,true,true,true,true,true,true,true,true,true,true,false,false,false] rfl rfl (by kernel_rfl) (by decide) (fun K hK=>?_)
      refine goes_ Tryz.func45 (by kernel_rfl) rfl #[.agg #[.int .i64 y.f0,.int .i64 y.f1,.int .i64 y.f2,.int .i64 y.f3,.int .i64 y.f4]] (by rfl) rfl rfl (by (try simp only [List.map_toArray,List.map_cons,List.map_nil]);first|done|rfl) ?_
      refine (corn_call HYO.out _).mono ?_
      rintro e w5 ⟨g5,c5,rfl,hc5,hC5,hb5⟩
      have HC5:=Aside0.mk hC5
      have HB5:=Aside0.mk (HB4'.out.trans (hb5.mono HB4'.out.size))
      have HS5:=hid (HSB.out _ _ HS.out hb5)
      clear hC5 hb5
      refine ⟨_,rfl,?_⟩
      refine hK.out _ _ HS5.out (fun hHeld=>?_)
      clear hK K
      refine norm_ (a':=?_) ?_ ?_
      rotate_left
      ·show Act.put _ (some 53) _=_
       simp only [Act.put,sp__,i64_w,i32_w]
       rfl
      refine one_ (i:=14) (N:=some 55) #[true,true,true,true,true,true,true,true,true,true,true,true,true,true,true,false,false] rfl rfl (by kernel_rfl) (by decide) (fun K hK=>?_)
      refine goes_ Tryz.func48 (by kernel_rfl) rfl #[.slice (some ⟨g1,0,none⟩) 4 c1,.slice (some ⟨g5,0,none⟩) 4 c5,.agg #[.bool false,.int .i64 0,.int .i64 0,.int .i64 0,.int .i64 U,.int .i64 V,.int .i64 W]] (by rfl) rfl rfl (by (try simp only [List.map_toArray,List.map_cons,List.map_nil]);first|done|rfl) ?_
      refine (Check_walk U V W _ _ HSEP.out g1 c1 g5 c5 _ rfl rfl hc1 hc5 (rect_in HXO.out.rect) (rect_in HYO.out.rect) (Kd.C_below HC2.out HB5.out) HC5.out).mono ?_
      rintro e w6 ⟨rfl,hb6⟩
      have HB6:=Aside0.mk (HB5.out.trans (hb6.mono HB5.out.size))
      have HS6:=hid (HSB.out _ _ HS5.out hb6)
      clear hb6
      refine ⟨_,rfl,?_⟩
      refine hK.out _ _ HS6.out (fun hHeld=>?_)
      clear hK K
      refine norm_ (a':=?_) ?_ ?_
      rotate_left
      ·show Act.put _ (some 55) _=_
       simp only [Act.put,sp__,i64_w,i32_w]
       rfl
      refine pure_ (i:=15) (N:=some 56) (v:=?_) (a':=?_) #[true,true,true,true,true,true,true,true,true,true,true,true,true,true,true,true,false] rfl rfl (by kernel_rfl) (fun _ _ _ h=>h) (Or.inl ⟨by rfl,?_⟩) ?_ ?_
      rotate_left
      ·intro w'
       go_simp
       with_reducible rfl
      rotate_left
      ·simp only [Act.put,sp__,i64_w,i32_w]
       rfl
      refine pure_ (i:=16) (N:=some 57) (v:=?_) (a':=?_) #[true,true,true,true,true,true,true,true,true,true,true,true,true,true,true,true,true] rfl rfl (by kernel_rfl) (fun _ _ _ h=>h) (Or.inl ⟨by rfl,?_⟩) ?_ ?_
      rotate_left
      ·intro w'
       go_simp
       with_reducible rfl
      rotate_left
      ·simp only [Act.put,sp__,i64_w,i32_w]
       rfl
      refine done_ (by kernel_rfl) ?_
      go_wp2_with (fail)
      go_roundg (i-(k+1))
      case rel=>exact ⟨k+1,by go_num,by have:=HLT2.out;omega,HB6⟩
      case measure=>have:=HLT2.out;omega
     ·have hki' : k=i:=by omega
      subst hki'
      have d3:decide ((k:Int)<(k:Int))=false:=decide_eq_false (by omega)
      have HB3:=Aside0.mk (HB2.out.trans (HBI.out.mono HB2.out.size))
      clear hki
      go_wp2_with (fail)
      go_roundg (n-(k+1))
      case rel=>exact ⟨k+1,by go_num,by have:=HLT.out;omega,HB3⟩
      case measure=>have:=HLT.out;omega
   ·have d2:decide ((i:Int)<24)=false:=decide_eq_false (by omega)
    have i24:¬ (i:Int)<24:=by omega
    go_wp2_with (fail)
    go_ret
    exact ⟨rfl,HB.out⟩
  ·have d1:decide ((i:Int)<(n:Int))=false:=decide_eq_false (by omega)
   go_wp2_with (fail)
   go_ret
   exact ⟨rfl,HB.out⟩
end Go.Proofs.YtiioklboaookiaaGreatDoor.Q
namespace Go.Proofs.YtiioklboaookiaaGreatDoor.Q
open Go.RowKit Go.Proofs.YtiioklboaookiaaGreatDoorW.PrintWords Go.Proofs.YtiioklboaookiaaGreatDoorW.PrintLast Go.Proofs.YtiioklboaookiaaGreatDoor.Hand Go.Proofs.YtiioklboaookiaaGreatDoorW.PrintMore
attribute [local go_sem] max2_int min2_int max_two min_two max_three min_three max_four min_four
set_option linter.unusedVariables false
set_option linter.unusedSimpArgs false
def ByB (g:Nat) (B:List Int) (w:World):Prop:=∃ (C:Array Value) (m:Nat),w.heap[g]?=some (.cells C 5 (m,m+1))∧B.length≤m∧∀ j:Nat,j<B.length→C[j]?=some (.int .u8 (rd B (j:Int)))
theorem ByB.cell {g:Nat} {B:List Int} {w:World} (h:ByB g B w) (j:Nat) (hj:j<B.length):w.cell? ⟨g,j,none⟩=some (.int .u8 (rd B (j:Int))):=by
 obtain ⟨C,m,h1,h2,h3⟩:=h;simp [World.cell?,h1,h3 j hj]
theorem ByB.put {g:Nat} {B:List Int} {w:World} (h:ByB g B w) (j:Nat) (hj:j<B.length) (v:Int):ByB g (B.set j v) (w.setCell ⟨g,j,none⟩ (.int .u8 v)):=by
 obtain ⟨C,m,h1,h2,h3⟩:=h
 refine ⟨C.setIfInBounds j (.int .u8 v),m,?_,by rw [List.length_set];exact h2,fun i hi=>?_⟩
 ·have hb:g<w.heap.size:=lt_of_some h1
  simp [World.setCell,Array.getElem?_modify,h1]
 ·rw [List.length_set] at hi
  have hc:=h3 i hi
  have hs:j<C.size:=lt_of_some (h3 j hj)
  rw [Array.getElem?_setIfInBounds]
  unfold rd
  rw [Int.toNat_natCast,List.getD_eq_getElem?_getD,List.getElem?_set]
  by_cases e:j=i
  ·subst e;simp [hs,hj]
  ·rw [if_neg e,if_neg e,hc]
   unfold rd
   rw [Int.toNat_natCast,List.getD_eq_getElem?_getD]
theorem ByB.lt {g:Nat} {B:List Int} {w:World} (h:ByB g B w):g<w.heap.size:=by obtain ⟨C,m,h1,h2⟩:=h;exact lt_of_some h1
theorem ByB.step {g:Nat} {B:List Int} {w w1:World} (h:ByB g B w) (he:w1.heap[g]?=w.heap[g]?):ByB g B w1:=by obtain ⟨C,m,h1,h2⟩:=h;exact ⟨C,m,he.trans h1,h2⟩
theorem ByB.below {g:Nat} {B:List Int} {w w1:World} (h:ByB g B w) (hb:Below w.heap.size w w1):ByB g B w1:=h.step (hb.block g h.lt)
theorem tmod_nat (a:Int) (b:Nat) (hb:0<b) (hb' : b≤100000):∃ r:Nat,silversidetop_mod.f a (b:Int)=some (r:Int)∧r<b:=by
 unfold silversidetop_mod.f
 have e1:IntKind.u64.wrap (b:Int)=b:=by rw [IntKind.wrap_u64];omega
 have e2:0≤IntKind.u64.wrap a:=by rw [IntKind.wrap_u64];omega
 rw [e1,if_neg (by omega),Int.tmod_eq_emod_of_nonneg e2]
 generalize IntKind.u64.wrap a=x at *
 have h1:0≤x % (b:Int):=Int.emod_nonneg _ (by omega)
 have h2:x % (b:Int)<b:=Int.emod_lt_of_pos _ (by omega)
 refine ⟨(x % (b:Int)).toNat,?_,by omega⟩
 rw [w64_in _ (by omega) (by omega)]
 congr 1;omega
end Go.Proofs.YtiioklboaookiaaGreatDoor.Q
namespace Go.Proofs.YtiioklboaookiaaGreatDoor.Q
open Go.RowKit Go.Proofs.YtiioklboaookiaaGreatDoorW.PrintWords Go.Proofs.YtiioklboaookiaaGreatDoorW.PrintLast Go.Proofs.YtiioklboaookiaaGreatDoor.Hand Go.Proofs.YtiioklboaookiaaGreatDoorW.PrintMore
attribute [local go_sem] max2_int min2_int max_two min_two max_three min_three max_four min_four
set_option linter.unusedVariables false
set_option linter.unusedSimpArgs false
theorem infoJobP:(Tryz.prog.info? 46).map (fun i=>(i.zero,i.size,i.bytes))=some (some (.agg #[.int .i64 0,.int .i64 0,.int .i64 0]),3,24):=by kernel_rfl
theorem mod_call (x:Int) (n:Nat) (h:0<n) (h' : n≤100000):∃ r:Nat,r<n∧∀ w,Calls Tryz.prog 10 #[.int .i64 x,.int .i64 (n:Int)] w fun e w'=>e=.returned (.int .i64 (r:Int))∧Below w.heap.size w w':=by
 obtain ⟨r,e,hr⟩:=tmod_nat x n h h'
 exact ⟨r,hr,fun w=>(silversidetop_mod.calls x n r w e).mono fun _ _ ⟨he,hw⟩=>⟨he,hw.below⟩⟩
def JobIn (b:S76):Prop:=0≤b.f0∧b.f0<b.f1∧b.f1≤50∧1≤b.f2∧b.f2≤50
theorem JobIn.ok {b:S76} (h:JobIn b):jobOk b=true:=by
 obtain ⟨h1,h2,h3,h4,h5⟩:=h
 exact decide_eq_true ⟨h1,h2,by omega,h4,by omega⟩
theorem blk3 {W:World} {b t:Nat} {x y z:Value} (h:W.heap[b]?=some (.cells #[x,y,z] t (0,0))):W.cell? ⟨b,0,none⟩=some x∧W.cell? ⟨b,1,none⟩=some y∧W.cell? ⟨b,2,none⟩=some z:=by
 refine ⟨?_,?_,?_⟩ <;> (rw [blk_cell h];rfl)
theorem w64_n {n:Nat} (h:n≤1000):wrap64 (n:Int)=(n:Int):=w64_in _ (by omega) (by omega)
theorem w64_n1 {n:Nat} (h:n≤1000):wrap64 ((n:Int)+1)=(n:Int)+1:=w64_in _ (by omega) (by omega)
theorem w64_1n {n:Nat} (h:n≤1000):wrap64 (1+(n:Int))=1+(n:Int):=w64_in _ (by omega) (by omega)
def JobsPost (W:World) (e:Ending) (w' : World):Prop:=∃ v out,e=.returned v∧Kd.R k76 46 w' W.heap.size (fun _=>True) v out∧out.length≤8∧(∀ x,x ∈ out→JobIn x)∧Below W.heap.size W w'
set_option maxHeartbeats 8000000 in
set_option maxRecDepth 100000 in
theorem jobs_walk (l:List S76) (A0:Option Addr) (c0:Nat) (w:World) (hl:l.length≤9223372036854775807) (hC:Kd.C k76 w A0 l.length l) :
  Calls Tryz.prog 22 #[.slice A0 l.length c0,.int .i64 8] w (JobsPost w):=by
 have HC:=Aside0.mk hC
 obtain ⟨n,hn⟩:∃ n,n=l.length:=⟨_,rfl⟩
 rw [← hn] at HC hl ⊢
 obtain ⟨B,hB⟩:∃ B,B=w.heap.size:=⟨_,rfl⟩
 have HBE:=hid hB
 have HR0:=Aside0.mk (Kd.R_nil k76 46 w B (fun _=>True))
 have HI0:=hid (show ∀ x:S76,x ∈ ([]:List S76)→JobIn x from fun x hx=>by simp at hx)
 have HB0:Aside0 (Below B w w):=⟨Below.refl _ _⟩
 clear hC hn hB
 go_enter Tryz.func22,Tryz.ntmps22
 go_wp2_with (fail)
 go_loopg [5,6] n (fun kq v5 v6 w'=>∃ (i:Nat) (out:List S76),v6=.int .i64 i∧i+kq=n∧i≤8∧Hid (out.length=i)∧Hid (∀ x,x ∈ out→JobIn x)∧Aside0 (Kd.R k76 46 w' B (fun _=>True) v5 out)∧Aside0 (Below B w w'))
 case atStart=>exact ⟨0,[],rfl,by omega,by omega,hid rfl,HI0,HR0,HB0⟩
 case round =>
  clear HR0 HI0 HB0
  obtain ⟨i,out,rfl,hi,hi8,HOL,HOI,HR,HB⟩:=hrel
  by_cases hlt:i<n
  ·have d1:decide ((i:Int)<(n:Int))=true:=decide_eq_true (by omega)
   by_cases h8:i<8
   ·have d2:decide ((i:Int)<8)=true:=decide_eq_true (by omega)
    have i8:(i:Int)<8:=by omega
    have i0:(0:Int)≤(i:Int):=by omega
    have i1:(i:Int)<(n:Int):=by omega
    have hbw:Below w.heap.size w wr:=by have h:=HB.out;rw [HBE.out] at h;exact h
    have HBZ:=hid (show B≤wr.heap.size by rw [HBE.out];exact HB.out.size)
    obtain ⟨ad,e0,hx0,hx1,hx2⟩:=at_T76 (Kd.C_below HC.out hbw) (i:Int) i0 i1
    rw [Int.toNat_natCast] at hx0 hx1 hx2
    obtain ⟨x,hx⟩:∃ x,x=rd_T76 l (i:Int):=⟨_,rfl⟩
    rw [← hx] at hx0 hx1 hx2
    subst e0
    have HX0:=hid hx0
    have HX1:=hid hx1
    have HX2:=hid hx2
    obtain ⟨r0,hr0,hm0⟩:=mod_call x.f0 30 (by omega) (by omega)
    obtain ⟨r1,hr1,hm1⟩:=mod_call x.f1 20 (by omega) (by omega)
    obtain ⟨r2,hr2,hm2⟩:=mod_call x.f2 (1+r1) (by omega) (by omega)
    obtain ⟨m,hm⟩:∃ m,m=1+r1:=⟨_,rfl⟩
    obtain ⟨dn,hdn⟩:∃ dn,dn=r0+1+r1:=⟨_,rfl⟩
    rw [← hm] at hr2 hm2
    have HMD:=hid hm
    have HDN:=hid hdn
    have hD:(r0:Int)+1+(r1:Int)=(dn:Int):=by omega
    have hDR:(dn:Int)-(r0:Int)=(m:Int):=by omega
    have n0:r0≤1000:=by omega
    have n1:dn≤1000:=by omega
    have n2:m≤1000:=by omega
    have n3:r2≤1000:=by omega
    have q1:=w64_n1 n0
    have q2:=w64_n n1
    have q3:=w64_n n2
    have q4:=w64_1n n3
    have HM0:=hid hm0
    have HM1:=hid hm1
    have HM2:=hid hm2
    have HLT:=hid hlt
    clear hm0 hm1 hm2 hx hbw hlt hm hdn
    go_wp2_with (fail)
    refine (HM0.out _).mono ?_
    rintro e w1 ⟨rfl,hb1⟩
    have HB1:=Aside0.mk (show Below wr.heap.size wr (w1.alloc (.cells #[.int .i64 (r0:Int),.int .i64 0,.int .i64 0] 46)) from hb1.alloc hb1.size _)
    have HJ1:=hid (blk_new w1 (.cells #[.int .i64 (r0:Int),.int .i64 0,.int .i64 0] 46))
    have HJ0:=hid (show wr.heap.size≤w1.heap.size from hb1.size)
    clear hb1 hx0 hx1 hx2
    obtain ⟨W1,hW1⟩:∃ W1,W1=w1.alloc (.cells #[.int .i64 (r0:Int),.int .i64 0,.int .i64 0] 46):=⟨_,rfl⟩
    obtain ⟨jb,hjb⟩:∃ jb,jb=w1.heap.size:=⟨_,rfl⟩
    have HJB:=hid (show wr.heap.size≤jb by rw [hjb];exact HJ0.out)
    rw [← hjb,← hW1] at HJ1
    rw [← hW1] at HB1
    have HS:=hid (show (fun w' : World=>w'.cell? ⟨jb,0,none⟩=some (.int .i64 (r0:Int))∧w'.cell? ⟨jb,1,none⟩=some (.int .i64 0)∧w'.cell? ⟨jb,2,none⟩=some (.int .i64 0)∧w'.cell? ⟨(ad.add (i*3)).block,(ad.add (i*3)).off+1,none⟩=some (.int .i64 x.f1)) W1.drew from ⟨(blk3 HJ1.out).1,(blk3 HJ1.out).2.1,(blk3 HJ1.out).2.2,pw_cell_below HB1.out HX1.out⟩)
    have HB1':=Aside0.mk (show Below wr.heap.size wr W1.drew from HB1.out.drew)
    have HJ1':=hid (show W1.drew.heap[jb]?=some (.cells #[.int .i64 (r0:Int),.int .i64 0,.int .i64 0] 46 (0,0)) from HJ1.out)
    go_upto_region 6 with (fail)
    rw [← hW1,← hjb]
    clear hW1 hjb
    go_wp2_with (fail)
    refine start_ (n:=12) (S:=fun w'=>w'.cell? ⟨jb,0,none⟩=some (.int .i64 (r0:Int))∧w'.cell? ⟨jb,1,none⟩=some (.int .i64 0)∧w'.cell? ⟨jb,2,none⟩=some (.int .i64 0)∧w'.cell? ⟨(ad.add (i*3)).block,(ad.add (i*3)).off+1,none⟩=some (.int .i64 x.f1)) (ds:=[11]) #[false,false,false,false,false,false,false,false,false,false,false,false] (by kernel_rfl) rfl rfl HS.out (fun hHeld=>?_)
    refine pure_ (i:=0) (N:=some 26) (v:=?_) (a':=?_) #[true,false,false,false,false,false,false,false,false,false,false,false] rfl rfl (by kernel_rfl) (fun _ _ _ h=>h) (Or.inl ⟨by rfl,?_⟩) ?_ ?_
    rotate_left
    ·intro w'
     go_simp
     with_reducible rfl
    rotate_left
    ·simp only [Act.put,sp__,i64_w,i32_w]
     rfl
    refine take_ (i:=1) (N:=some 27) (v:=?_) (a':=?_) #[true,true,false,false,false,false,false,false,false,false,false,false] rfl rfl (by kernel_rfl) (fun _ _ _ h=>h) (Or.inl ⟨by rfl,?_⟩) hHeld ?_ ?_
    rotate_left
    ·rintro w' ⟨s0,s1,s2,s3⟩
     go_simp
     with_reducible rfl
    rotate_left
    ·simp only [Act.put,sp__,i64_w,i32_w]
     rfl
    refine pure_ (i:=2) (N:=some 28) (v:=?_) (a':=?_) #[true,true,true,false,false,false,false,false,false,false,false,false] rfl rfl (by kernel_rfl) (fun _ _ _ h=>h) (Or.inl ⟨by rfl,?_⟩) ?_ ?_
    rotate_left
    ·intro w'
     go_simp
     with_reducible rfl
    rotate_left
    ·simp only [Act.put,sp__,i64_w,i32_w]
     rfl
    refine pure_ (i:=3) (N:=some 29) (v:=?_) (a':=?_) #[true,true,true,true,false,false,false,false,false,false,false,false] rfl rfl (by kernel_rfl) (fun _ _ _ h=>h) (Or.inl ⟨by rfl,?_⟩) ?_ ?_
    rotate_left
    ·intro w'
     go_simp
     with_reducible rfl
    rotate_left
    ·simp only [Act.put,sp__,i64_w,i32_w]
     rfl
    refine pure_ (i:=4) (N:=some 30) (v:=?_) (a':=?_) #[true,true,true,true,true,false,false,false,false,false,false,false] rfl rfl (by kernel_rfl) (fun _ _ _ h=>h) (Or.inl ⟨by rfl,?_⟩) ?_ ?_
    rotate_left
    ·intro w'
     go_simp
     with_reducible rfl
    rotate_left
    ·simp only [Act.put,sp__,i64_w,i32_w]
     rfl
    refine pure_ (i:=5) (N:=some 31) (v:=?_) (a':=?_) #[true,true,true,true,true,true,false,false,false,false,false,false] rfl rfl (by kernel_rfl) (fun _ _ _ h=>h) (Or.inl ⟨by rfl,?_⟩) ?_ ?_
    rotate_left
    ·intro w'
     go_simp
     with_reducible rfl
    rotate_left
    ·simp only [Act.put,sp__,i64_w,i32_w]
     rfl
    refine pure_ (i:=6) (N:=some 32) (v:=?_) (a':=?_) #[true,true,true,true,true,true,true,false,false,false,false,false] rfl rfl (by kernel_rfl) (fun _ _ _ h=>h) (Or.inl ⟨by rfl,?_⟩) ?_ ?_
    rotate_left
    ·intro w'
     go_simp
     with_reducible rfl
    rotate_left
    ·simp only [Act.put,sp__,i64_w,i32_w]
     rfl
    refine take_ (i:=7) (N:=some 33) (v:=?_) (a':=?_) #[true,true,true,true,true,true,true,true,false,false,false,false] rfl rfl (by kernel_rfl) (fun _ _ _ h=>h) (Or.inl ⟨by rfl,?_⟩) hHeld ?_ ?_
    rotate_left
    ·rintro w' ⟨s0,s1,s2,s3⟩
     go_simp
     with_reducible rfl
    rotate_left
    ·simp only [Act.put,sp__,i64_w,i32_w]
     rfl
    refine one_ (i:=8) (N:=some 34) #[true,true,true,true,true,true,true,true,true,false,false,false] rfl rfl (by kernel_rfl) (by decide) (fun K hK=>?_)
    refine goes_ Tryz.func10 (by kernel_rfl) rfl #[.int .i64 x.f1,.int .i64 20] (by rfl) rfl rfl (by (try simp only [List.map_toArray,List.map_cons,List.map_nil]);first|done|rfl) ?_
    refine (HM1.out _).mono ?_
    rintro e w2 ⟨rfl,hb2⟩
    have HB2:=Aside0.mk (HB1'.out.trans (hb2.mono HB1'.out.size))
    have HJ2:=hid (blk_below HJ1'.out hb2)
    have HS2:=hid (show (fun w' : World=>w'.cell? ⟨jb,0,none⟩=some (.int .i64 (r0:Int))∧w'.cell? ⟨jb,1,none⟩=some (.int .i64 0)∧w'.cell? ⟨jb,2,none⟩=some (.int .i64 0)∧w'.cell? ⟨(ad.add (i*3)).block,(ad.add (i*3)).off+1,none⟩=some (.int .i64 x.f1)) w2 from ⟨(blk3 HJ2.out).1,(blk3 HJ2.out).2.1,(blk3 HJ2.out).2.2,pw_cell_below HB2.out HX1.out⟩)
    have fz2:∀ o,w2.frozen? ⟨jb,o,none⟩=false:=fun o=>blk_frozen HJ2.out o
    have cz2:=HS2.out.2.1
    clear hb2
    refine ⟨_,rfl,?_⟩
    refine hK.out _ _ HS2.out (fun hHeld=>?_)
    clear hK K
    refine norm_ (a':=?_) ?_ ?_
    rotate_left
    ·show Act.put _ (some 34) _=_
     simp only [Act.put,sp__,i64_w,i32_w]
     rfl
    refine pure_ (i:=9) (N:=some 35) (v:=?_) (a':=?_) #[true,true,true,true,true,true,true,true,true,true,false,false] rfl rfl (by kernel_rfl) (fun _ _ _ h=>h) (Or.inl ⟨by rfl,?_⟩) ?_ ?_
    rotate_left
    ·intro w'
     go_simp
     with_reducible rfl
    rotate_left
    ·simp only [Act.put,sp__,i64_w,i32_w]
     rfl
    refine pure_ (i:=10) (N:=some 36) (v:=?_) (a':=?_) #[true,true,true,true,true,true,true,true,true,true,true,false] rfl rfl (by kernel_rfl) (fun _ _ _ h=>h) (Or.inl ⟨by rfl,?_⟩) ?_ ?_
    rotate_left
    ·intro w'
     go_simp
     with_reducible rfl
    rotate_left
    ·simp only [Act.put,sp__,i64_w,i32_w]
     rfl
    refine last_ (i:=11) (N:=none) #[true,true,true,true,true,true,true,true,true,true,true,true] rfl rfl (by kernel_rfl) (by decide) (fun K hK=>?_)
    refine skip_ (w1:=?_) (by rfl) rfl ?_ ?_
    rotate_left
    ·go_simp
     rfl
    refine hK.out _ _ ?_
    clear hK K
    refine done_ (by kernel_rfl) ?_
    have HJ3:=hid (blk_set HJ2.out 1 (.int .i64 (dn:Int)))
    have HB3:=Aside0.mk (show Below wr.heap.size wr (w2.setCell ⟨jb,1,none⟩ (.int .i64 (dn:Int))) from HB2.out.setCell HJB.out _)
    obtain ⟨W3,hW3⟩:∃ W3,W3=w2.setCell ⟨jb,1,none⟩ (.int .i64 (dn:Int)):=⟨_,rfl⟩
    rw [← hW3] at HJ3 HB3
    clear fz2 cz2
    rw [← hW3]
    clear hW3
    have HB3':=Aside0.mk (show Below wr.heap.size wr W3.drew from HB3.out.drew)
    have HJ3':=hid (show W3.drew.heap[jb]?=some (.cells #[.int .i64 (r0:Int),.int .i64 (dn:Int),.int .i64 0] 46 (0,0)) from HJ3.out)
    have HS3:=hid (show (fun w' : World=>w'.cell? ⟨jb,0,none⟩=some (.int .i64 (r0:Int))∧w'.cell? ⟨jb,1,none⟩=some (.int .i64 (dn:Int))∧w'.cell? ⟨jb,2,none⟩=some (.int .i64 0)∧w'.cell? ⟨(ad.add (i*3)).block,(ad.add (i*3)).off+2,none⟩=some (.int .i64 x.f2)) W3.drew from ⟨(blk3 HJ3'.out).1,(blk3 HJ3'.out).2.1,(blk3 HJ3'.out).2.2,pw_cell_below HB3'.out HX2.out⟩)
    go_wp2_with (fail)
    refine start_ (n:=14) (S:=fun w'=>w'.cell? ⟨jb,0,none⟩=some (.int .i64 (r0:Int))∧w'.cell? ⟨jb,1,none⟩=some (.int .i64 (dn:Int))∧w'.cell? ⟨jb,2,none⟩=some (.int .i64 0)∧w'.cell? ⟨(ad.add (i*3)).block,(ad.add (i*3)).off+2,none⟩=some (.int .i64 x.f2)) (ds:=[13]) #[false,false,false,false,false,false,false,false,false,false,false,false,false,false] (by kernel_rfl) rfl rfl HS3.out (fun hHeld=>?_)
    refine pure_ (i:=0) (N:=some 37) (v:=?_) (a':=?_) #[true,false,false,false,false,false,false,false,false,false,false,false,false,false] rfl rfl (by kernel_rfl) (fun _ _ _ h=>h) (Or.inl ⟨by rfl,?_⟩) ?_ ?_
    rotate_left
    ·intro w'
     go_simp
     with_reducible rfl
    rotate_left
    ·simp only [Act.put,sp__,i64_w,i32_w]
     rfl
    refine pure_ (i:=1) (N:=some 38) (v:=?_) (a':=?_) #[true,true,false,false,false,false,false,false,false,false,false,false,false,false] rfl rfl (by kernel_rfl) (fun _ _ _ h=>h) (Or.inl ⟨by rfl,?_⟩) ?_ ?_
    rotate_left
    ·intro w'
     go_simp
     with_reducible rfl
    rotate_left
    ·simp only [Act.put,sp__,i64_w,i32_w]
     rfl
    refine pure_ (i:=2) (N:=some 39) (v:=?_) (a':=?_) #[true,true,true,false,false,false,false,false,false,false,false,false,false,false] rfl rfl (by kernel_rfl) (fun _ _ _ h=>h) (Or.inl ⟨by rfl,?_⟩) ?_ ?_
    rotate_left
    ·intro w'
     go_simp
     with_reducible rfl
    rotate_left
    ·simp only [Act.put,sp__,i64_w,i32_w]
     rfl
    refine pure_ (i:=3) (N:=some 40) (v:=?_) (a':=?_) #[true,true,true,true,false,false,false,false,false,false,false,false,false,false] rfl rfl (by kernel_rfl) (fun _ _ _ h=>h) (Or.inl ⟨by rfl,?_⟩) ?_ ?_
    rotate_left
    ·intro w'
     go_simp
     with_reducible rfl
    rotate_left
    ·simp only [Act.put,sp__,i64_w,i32_w]
     rfl
    refine take_ (i:=4) (N:=some 41) (v:=?_) (a':=?_) #[true,true,true,true,true,false,false,false,false,false,false,false,false,false] rfl rfl (by kernel_rfl) (fun _ _ _ h=>h) (Or.inl ⟨by rfl,?_⟩) hHeld ?_ ?_
    rotate_left
    ·rintro w' ⟨s0,s1,s2,s3⟩
     go_simp
     with_reducible rfl
    rotate_left
    ·simp only [Act.put,sp__,i64_w,i32_w]
     rfl
    refine pure_ (i:=5) (N:=some 42) (v:=?_) (a':=?_) #[true,true,true,true,true,true,false,false,false,false,false,false,false,false] rfl rfl (by kernel_rfl) (fun _ _ _ h=>h) (Or.inl ⟨by rfl,?_⟩) ?_ ?_
    rotate_left
    ·intro w'
     go_simp
     with_reducible rfl
    rotate_left
    ·simp only [Act.put,sp__,i64_w,i32_w]
     rfl
    refine take_ (i:=6) (N:=some 43) (v:=?_) (a':=?_) #[true,true,true,true,true,true,true,false,false,false,false,false,false,false] rfl rfl (by kernel_rfl) (fun _ _ _ h=>h) (Or.inl ⟨by rfl,?_⟩) hHeld ?_ ?_
    rotate_left
    ·rintro w' ⟨s0,s1,s2,s3⟩
     go_simp
     with_reducible rfl
    rotate_left
    ·simp only [Act.put,sp__,i64_w,i32_w]
     rfl
    refine pure_ (i:=7) (N:=some 44) (v:=?_) (a':=?_) #[true,true,true,true,true,true,true,true,false,false,false,false,false,false] rfl rfl (by kernel_rfl) (fun _ _ _ h=>h) (Or.inl ⟨by rfl,?_⟩) ?_ ?_
    rotate_left
    ·intro w'
     go_simp
     with_reducible rfl
    rotate_left
    ·simp only [Act.put,sp__,i64_w,i32_w]
     rfl
    refine take_ (i:=8) (N:=some 45) (v:=?_) (a':=?_) #[true,true,true,true,true,true,true,true,true,false,false,false,false,false] rfl rfl (by kernel_rfl) (fun _ _ _ h=>h) (Or.inl ⟨by rfl,?_⟩) hHeld ?_ ?_
    rotate_left
    ·rintro w' ⟨s0,s1,s2,s3⟩
     go_simp
     with_reducible rfl
    rotate_left
    ·simp only [Act.put,sp__,i64_w,i32_w]
     rfl
    refine pure_ (i:=9) (N:=some 46) (v:=?_) (a':=?_) #[true,true,true,true,true,true,true,true,true,true,false,false,false,false] rfl rfl (by kernel_rfl) (fun _ _ _ h=>h) (Or.inl ⟨by rfl,?_⟩) ?_ ?_
    rotate_left
    ·intro w'
     go_simp
     with_reducible rfl
    rotate_left
    ·simp only [Act.put,sp__,i64_w,i32_w]
     rfl
    refine one_ (i:=10) (N:=some 47) #[true,true,true,true,true,true,true,true,true,true,true,false,false,false] rfl rfl (by kernel_rfl) (by decide) (fun K hK=>?_)
    refine goes_ Tryz.func10 (by kernel_rfl) rfl #[.int .i64 x.f2,.int .i64 (wrap64 (m:Int))] (by rfl) rfl rfl (by (try simp only [List.map_toArray,List.map_cons,List.map_nil]);first|done|rfl) ?_
    rw [q3]
    refine (HM2.out _).mono ?_
    rintro e w4 ⟨rfl,hb4⟩
    have HB4:=Aside0.mk (HB3'.out.trans (hb4.mono HB3'.out.size))
    have HJ4:=hid (blk_below HJ3'.out hb4)
    have HS4:=hid (show (fun w' : World=>w'.cell? ⟨jb,0,none⟩=some (.int .i64 (r0:Int))∧w'.cell? ⟨jb,1,none⟩=some (.int .i64 (dn:Int))∧w'.cell? ⟨jb,2,none⟩=some (.int .i64 0)∧w'.cell? ⟨(ad.add (i*3)).block,(ad.add (i*3)).off+2,none⟩=some (.int .i64 x.f2)) w4 from ⟨(blk3 HJ4.out).1,(blk3 HJ4.out).2.1,(blk3 HJ4.out).2.2,pw_cell_below HB4.out HX2.out⟩)
    have fz4:∀ o,w4.frozen? ⟨jb,o,none⟩=false:=fun o=>blk_frozen HJ4.out o
    have cz4:=HS4.out.2.2.1
    clear hb4
    refine ⟨_,rfl,?_⟩
    refine hK.out _ _ HS4.out (fun hHeld=>?_)
    clear hK K
    refine norm_ (a':=?_) ?_ ?_
    rotate_left
    ·show Act.put _ (some 47) _=_
     simp only [Act.put,sp__,i64_w,i32_w]
     rfl
    refine pure_ (i:=11) (N:=some 48) (v:=?_) (a':=?_) #[true,true,true,true,true,true,true,true,true,true,true,true,false,false] rfl rfl (by kernel_rfl) (fun _ _ _ h=>h) (Or.inl ⟨by rfl,?_⟩) ?_ ?_
    rotate_left
    ·intro w'
     go_simp
     with_reducible rfl
    rotate_left
    ·simp only [Act.put,sp__,i64_w,i32_w]
     rfl
    refine pure_ (i:=12) (N:=some 49) (v:=?_) (a':=?_) #[true,true,true,true,true,true,true,true,true,true,true,true,true,false] rfl rfl (by kernel_rfl) (fun _ _ _ h=>h) (Or.inl ⟨by rfl,?_⟩) ?_ ?_
    rotate_left
    ·intro w'
     go_simp
     with_reducible rfl
    rotate_left
    ·simp only [Act.put,sp__,i64_w,i32_w]
     rfl
    refine last_ (i:=13) (N:=none) #[true,true,true,true,true,true,true,true,true,true,true,true,true,true] rfl rfl (by kernel_rfl) (by decide) (fun K hK=>?_)
    refine skip_ (w1:=?_) (by rfl) rfl ?_ ?_
    rotate_left
    ·go_simp
     rfl
    refine hK.out _ _ ?_
    clear hK K
    refine done_ (by kernel_rfl) ?_
    have HJ5:=hid (blk_set HJ4.out 2 (.int .i64 (1+(r2:Int))))
    have HB5:=Aside0.mk (show Below wr.heap.size wr (w4.setCell ⟨jb,2,none⟩ (.int .i64 (1+(r2:Int)))) from HB4.out.setCell HJB.out _)
    obtain ⟨W5,hW5⟩:∃ W5,W5=w4.setCell ⟨jb,2,none⟩ (.int .i64 (1+(r2:Int))):=⟨_,rfl⟩
    rw [← hW5] at HJ5 HB5
    clear fz4 cz4
    rw [← hW5]
    clear hW5
    have hcells:=blk3 HJ5.out
    obtain ⟨c0',c1',c2'⟩:=hcells
    have HR5:=Aside0.mk (Kd.R_below HR.out HB5.out)
    have HBB:=Aside0.mk (HB.out.trans (HB5.out.mono HBZ.out))
    have HB5s:=hid (show B≤W5.heap.size by have:=HBZ.out;have:=HB5.out.size;omega)
    have HP:=Aside0.mk (show k76.M W5 B (fun _=>False) ⟨(r0:Int),(dn:Int),1+(r2:Int)⟩ [.int .i64 (r0:Int),.int .i64 (dn:Int),.int .i64 (1+(r2:Int))] from k76_mkM _ _ _ _)
    go_wp2_with ((with_reducible refine gate_builtin (b:=.append) (xs:=#[.tmp 50,.tmp 52]) rfl ?_);at_builtin;refine Kd.R_append k76 (w0:=w) B rfl (.tmp 50) (.tmp 52) 44 46 (.agg #[.int .i64 0,.int .i64 0,.int .i64 0]) 24 rfl Tryz.underlying44 infoJobP rfl (by decide) (by omega) _ out ⟨(r0:Int),(dn:Int),1+(r2:Int)⟩ [.int .i64 (r0:Int),.int .i64 (dn:Int),.int .i64 (1+(r2:Int))] (fun _=>True) (fun _=>False) rfl rfl HP.out (fun _ hk=>hk.elim) (fun _ _=>trivial) HR5.out HBB.out HB5s.out ?aL ?_;(case aL=>rw [HOL.out];omega);intro v6 w6 ho hb hg hat;have HO6:=Aside0.mk ho;have HB6:=Aside0.mk hb;clear ho hb hg hat)
    have HI6:=hid (show ∀ y,y ∈ out++[(⟨(r0:Int),(dn:Int),1+(r2:Int)⟩:S76)]→JobIn y from fun y hy=>by
     rcases List.mem_append.1 hy with hy|hy
     ·exact HOI.out y hy
     ·rw [List.mem_singleton.1 hy]
      have h1:=HDN.out
      have h2:=HMD.out
      clear q1 q2 q3 q4
      unfold JobIn;dsimp only;omega)
    have HL6:=hid (show (out++[(⟨(r0:Int),(dn:Int),1+(r2:Int)⟩:S76)]).length=i+1 by rw [List.length_append,HOL.out];rfl)
    go_roundg (n-(i+1))
    case rel=>exact ⟨i+1,_,by go_num,by have:=HLT.out;clear q1 q2 q3 q4;omega,by omega,HL6,HI6,HO6,HB6⟩
    case measure=>have:=HLT.out;clear q1 q2 q3 q4;omega
   ·have d2:decide ((i:Int)<8)=false:=decide_eq_false (by omega)
    have i8:¬ (i:Int)<8:=by omega
    go_wp2_with (fail)
    go_ret
    exact ⟨_,out,rfl,by rw [← HBE.out];exact HR.out,by rw [HOL.out];exact hi8,HOI.out,by rw [← HBE.out];exact HB.out⟩
  ·have d1:decide ((i:Int)<(n:Int))=false:=decide_eq_false (by omega)
   go_wp2_with (fail)
   go_ret
   exact ⟨_,out,rfl,by rw [← HBE.out];exact HR.out,by rw [HOL.out];exact hi8,HOI.out,by rw [← HBE.out];exact HB.out⟩
end Go.Proofs.YtiioklboaookiaaGreatDoor.Q
namespace Go.Proofs.YtiioklboaookiaaGreatDoor.Q
open Go.RowKit Go.Proofs.YtiioklboaookiaaGreatDoorW.PrintWords Go.Proofs.YtiioklboaookiaaGreatDoorW.PrintLast Go.Proofs.YtiioklboaookiaaGreatDoor.Hand Go.Proofs.YtiioklboaookiaaGreatDoorW.PrintMore
attribute [local go_sem] max2_int min2_int max_two min_two max_three min_three max_four min_four
set_option linter.unusedVariables false
set_option linter.unusedSimpArgs false
def hereF (L:List Slt):List Bx:=L.map fun s=>⟨s.f,s.b,s.t-s.f,1,0⟩
def thereF (L:List Slt):List Bx:=L.map fun s=>⟨s.f,s.j,s.t-s.f,1,0⟩
theorem hereF_len (L:List Slt):(hereF L).length=L.length:=List.length_map _
theorem thereF_len (L:List Slt):(thereF L).length=L.length:=List.length_map _
theorem hereF_get (L:List Slt) (k:Nat) (h:k<(hereF L).length) (h' : k<L.length):(hereF L)[k]=⟨L[k].f,L[k].b,L[k].t-L[k].f,1,0⟩:=List.getElem_map _
theorem thereF_get (L:List Slt) (k:Nat) (h:k<(thereF L).length) (h' : k<L.length):(thereF L)[k]=⟨L[k].f,L[k].j,L[k].t-L[k].f,1,0⟩:=List.getElem_map _
theorem rdB {l:List Bx} {i:Nat} (h:i<l.length):rd_T67 l (i:Int)=l[i]:=by
 unfold rd_T67;rw [Int.toNat_natCast,List.getD_eq_getElem?_getD,List.getElem?_eq_getElem h];rfl
theorem rdS {l:List Slt} {i:Nat} (h:i<l.length):rd_Slt l (i:Int)=l[i]:=by
 unfold rd_Slt;rw [Int.toNat_natCast,List.getD_eq_getElem?_getD,List.getElem?_eq_getElem h];rfl
theorem here_ok {b n:Nat} {L:List Slt} (h:SchedOk b n 50 L) (hb:b≤8) (hn:n≤8):(∀ k,k<(hereF L).length→BoxOk (rd_T67 (hereF L) (k:Int)))∧(∀ k i,k<i→i<(hereF L).length→ApartB (rd_T67 (hereF L) (i:Int)) (rd_T67 (hereF L) (k:Int))):=by
 constructor
 ·intro k hk
  rw [rdB hk]
  have hk' : k<L.length:=by rw [← hereF_len];exact hk
  have:=h.each _ (List.getElem_mem hk')
  rw [hereF_get L k hk hk']
  unfold BoxOk;dsimp only;omega
 ·intro k i hki hi
  have hi' : i<L.length:=by rw [← hereF_len];exact hi
  have ha:=(List.pairwise_iff_getElem.1 h.apart) k i (by omega) hi' hki
  rw [rdB hi,rdB (show k<(hereF L).length by omega)]
  rw [hereF_get L i hi hi',hereF_get L k (by omega) (by omega)]
  have:=ha.1
  unfold ApartB;dsimp only;omega
theorem there_ok {b n:Nat} {L:List Slt} (h:SchedOk b n 50 L) (hb:b≤8) (hn:n≤8):(∀ k,k<(thereF L).length→BoxOk (rd_T67 (thereF L) (k:Int)))∧(∀ k i,k<i→i<(thereF L).length→ApartB (rd_T67 (thereF L) (i:Int)) (rd_T67 (thereF L) (k:Int))):=by
 constructor
 ·intro k hk
  rw [rdB hk]
  have hk' : k<L.length:=by rw [← thereF_len];exact hk
  have:=h.each _ (List.getElem_mem hk')
  rw [thereF_get L k hk hk']
  unfold BoxOk;dsimp only;omega
 ·intro k i hki hi
  have hi' : i<L.length:=by rw [← thereF_len];exact hi
  have ha:=(List.pairwise_iff_getElem.1 h.apart) k i (by omega) hi' hki
  rw [rdB hi,rdB (show k<(thereF L).length by omega)]
  rw [thereF_get L i hi hi',thereF_get L k (by omega) (by omega)]
  have:=ha.2
  unfold ApartB;dsimp only;omega
theorem hereF_take (L:List Slt) (i:Nat) (h:i<L.length):hereF (L.take (i+1))=hereF (L.take i)++[⟨(rd_Slt L (i:Int)).f,(rd_Slt L (i:Int)).b,(rd_Slt L (i:Int)).t-(rd_Slt L (i:Int)).f,1,0⟩]:=by
 unfold hereF;rw [List.take_succ_eq_append_getElem h,List.map_append,rdS h];rfl
theorem thereF_take (L:List Slt) (i:Nat) (h:i<L.length):thereF (L.take (i+1))=thereF (L.take i)++[⟨(rd_Slt L (i:Int)).f,(rd_Slt L (i:Int)).j,(rd_Slt L (i:Int)).t-(rd_Slt L (i:Int)).f,1,0⟩]:=by
 unfold thereF;rw [List.take_succ_eq_append_getElem h,List.map_append,rdS h];rfl
def wsF (n:Nat) (L:List Slt):List Int:=(List.range n).map fun k:Nat=>lenOf (k:Int) L
theorem wsF_len (n:Nat) (L:List Slt):(wsF n L).length=n:=by unfold wsF;simp
theorem wsF_get (n:Nat) (L:List Slt) (k:Nat) (h:k<n):(wsF n L)[k]?=some (lenOf (k:Int) L):=by unfold wsF;simp [h]
theorem lenOf_one (k:Int) (s:Slt):lenOf k [s]=if s.j=k then s.t-s.f else 0:=by unfold lenOf;simp
theorem wsF_next (n:Nat) (L:List Slt) (i:Nat) (h:i<L.length) (j:Nat) (hj:(rd_Slt L (i:Int)).j=(j:Int)) (hjn:j<n) :
  (wsF n (L.take i)).set j (lenOf (j:Int) (L.take i)+(rd_Slt L (i:Int)).t-(rd_Slt L (i:Int)).f)=wsF n (L.take (i+1)):=by
 apply List.ext_getElem?
 intro k
 rw [List.take_succ_eq_append_getElem h]
 rw [rdS h] at hj ⊢
 by_cases hk:k<n
 ·rw [wsF_get n _ k hk,lenOf_app,lenOf_one,hj]
  by_cases e:k=j
  ·subst e
   rw [List.getElem?_set_self (by rw [wsF_len];exact hk),if_pos rfl]
   congr 1;omega
  ·rw [List.getElem?_set_ne (fun e'=>e e'.symm),wsF_get n _ k hk,if_neg (by omega)]
   congr 1;omega
 ·rw [List.getElem?_eq_none (by rw [List.length_set,wsF_len];omega),List.getElem?_eq_none (by rw [wsF_len];omega)]
theorem lenOf_bd {b n:Nat} {L:List Slt} (h:SchedOk b n 50 L) (k:Int):0≤lenOf k L∧lenOf k L≤50*L.length:=by
 have he:=h.each
 clear h
 induction L with
 | nil=>simp [lenOf]
 | cons s L ih =>
  have h1:=ih (fun x hx=>he x (List.mem_cons_of_mem _ hx))
  have h2:=he s List.mem_cons_self
  have e:lenOf k (s::L)=(if s.j=k then s.t-s.f else 0)+lenOf k L:=by unfold lenOf;rw [List.map_cons,List.sum_cons]
  rw [e,List.length_cons]
  split <;> omega
theorem SchedOk.take {b n:Nat} {T:Int} {L:List Slt} (h:SchedOk b n T L) (i:Nat):SchedOk b n T (L.take i) :=
 ⟨fun s hs=>h.each s (List.mem_of_mem_take hs),h.apart.sublist (List.take_sublist i L)⟩
def NumsAt (b:Nat) (ws:List Int) (w:World):Prop:=w.heap[b]?=some (.cells (ws.map (Value.int .i64)).toArray 3 (0,0))
theorem NumsAt.cell {b:Nat} {ws:List Int} {w:World} (h:NumsAt b ws w) {k:Nat} {x:Int} (hx:ws[k]?=some x):w.cell? ⟨b,k,none⟩=some (.int .i64 x):=by
 rw [blk_cell h];simp [hx]
theorem NumsAt.set {b:Nat} {ws:List Int} {w:World} (h:NumsAt b ws w) (k:Nat) (x:Int):NumsAt b (ws.set k x) (w.setCell ⟨b,k,none⟩ (.int .i64 x)):=by
 have h1:=blk_set h k (.int .i64 x)
 unfold NumsAt
 rw [h1]
 congr 2
 simp [List.map_set]
theorem nums_made (n:Nat) (W:World):NumsAt W.heap.size (wsF n []) (W.alloc (.cells (madeCells #[.int .i64 0] n) 3)):=by
 have h1:=blk_new W (.cells (madeCells #[.int .i64 0] n) 3)
 unfold NumsAt
 rw [h1]
 congr 2
 unfold wsF
 have e:(List.range n).map (fun k:Nat=>lenOf (k:Int) [])=List.replicate n 0:=by
  rw [show (fun k:Nat=>lenOf (k:Int) [])=fun _=>(0:Int) from funext fun _=>rfl,List.map_const',List.length_range]
 rw [e]
 apply Array.ext_getElem?
 intro k
 by_cases hk:k<n <;> simp [madeCells,hk,Nat.mod_one]
end Go.Proofs.YtiioklboaookiaaGreatDoor.Q
namespace Go.Proofs.YtiioklboaookiaaGreatDoor.Q
open Go.RowKit Go.Proofs.YtiioklboaookiaaGreatDoorW.PrintWords Go.Proofs.YtiioklboaookiaaGreatDoorW.PrintLast Go.Proofs.YtiioklboaookiaaGreatDoor.Hand Go.Proofs.YtiioklboaookiaaGreatDoorW.PrintMore
attribute [local go_sem] max2_int min2_int max_two min_two max_three min_three max_four min_four
set_option linter.unusedVariables false
set_option linter.unusedSimpArgs false
theorem len_le_sum:∀ (L:List Slt),(∀ s,s ∈ L→s.f<s.t)→(L.length:Int)≤(L.map fun s=>s.t-s.f).sum
 | [],_=>by simp
 | s::L,h=>by
  have h1:=h s List.mem_cons_self
  have h2:=len_le_sum L (fun x hx=>h x (List.mem_cons_of_mem _ hx))
  rw [List.map_cons,List.sum_cons,List.length_cons];omega
theorem sumN_one (n:Nat) (j x:Int) (h0:0≤j) (h1:j<(n:Int)):sumN (fun k=>if j=(k:Int) then x else 0) n=x:=by
 induction n with
 | zero=>omega
 | succ n ih =>
  show sumN (fun k=>if j=(k:Int) then x else 0) n+(if j=(n:Int) then x else 0)=x
  by_cases e:j=(n:Int)
  ·rw [if_pos e,sumN_zero (fun i hi=>if_neg (by omega))];omega
  ·rw [if_neg e,ih (by omega)];omega
theorem sum_lenOf (n:Nat):∀ (L:List Slt),(∀ s,s ∈ L→0≤s.j∧s.j<(n:Int))→sumN (fun k=>lenOf (k:Int) L) n=(L.map fun s=>s.t-s.f).sum
 | [],_=>by
  have:(fun k:Nat=>lenOf (k:Int) [])=fun _=>0:=funext fun _=>rfl
  rw [this,sumN_zero (fun _ _=>rfl)];rfl
 | s::L,h=>by
  have ih:=sum_lenOf n L (fun x hx=>h x (List.mem_cons_of_mem _ hx))
  have hs:=h s List.mem_cons_self
  have e:(fun k:Nat=>lenOf (k:Int) (s::L))=fun k:Nat=>(if s.j=(k:Int) then s.t-s.f else 0)-(0-lenOf (k:Int) L):=funext fun k=>by
   unfold lenOf;rw [List.map_cons,List.sum_cons];omega
  rw [e,sumN_sub,sumN_sub,sumN_one n s.j (s.t-s.f) hs.1 hs.2,ih,sumN_zero (fun _ _=>rfl),List.map_cons,List.sum_cons];omega
theorem Cut.count {b:Nat} {l:List S76} {M:Nat→Nat→Int} (h:Cut b l M (workF l)) (hl:l.length≤32) (hv:∀ x,x ∈ l→jobOk x=true):(schedF M l.length (spansF l) (spansF l).length).length≤100000:=by
 obtain ⟨h1,h2⟩:=h.sched (T:=1000) hv (fun x hx=>(of_decide_eq_true (hv x hx)).2.2.1)
 have h3:=len_le_sum _ (fun s hs=>(h1.each s hs).2.2.2.2.2.1)
 have h4:=sum_lenOf l.length _ (fun s hs=>⟨(h1.each s hs).1,(h1.each s hs).2.1⟩)
 rw [sumN_congr h2,sum_wF] at h4
 have h5:=workF_bnd l hv
 omega
end Go.Proofs.YtiioklboaookiaaGreatDoor.Q
namespace Go.Proofs.YtiioklboaookiaaGreatDoor.Q
open Go.RowKit Go.Proofs.YtiioklboaookiaaGreatDoorW.PrintWords Go.Proofs.YtiioklboaookiaaGreatDoorW.PrintLast Go.Proofs.YtiioklboaookiaaGreatDoor.Hand Go.Proofs.YtiioklboaookiaaGreatDoorW.PrintMore
attribute [local go_sem] max2_int min2_int max_two min_two max_three min_three max_four min_four
set_option linter.unusedVariables false
set_option linter.unusedSimpArgs false
theorem q_add {x a b:Int} (h1:0≤x) (h2:x≤5000000) (h3:0≤a) (h4:a<b) (h5:b≤50):wrap64 (x+b)=x+b∧wrap64 (x+b-a)=x+b-a:=⟨w64_big (by omega) (by omega),w64_big (by omega) (by omega)⟩
theorem plan_slots {b:Nat} {own:List S76} (hol:own.length≤32) (hJ:∀ x,x ∈ own→JobIn x) {p:Bool} {AS:Option Addr} {nS cS:Nat} {B:Nat} {w:World} (hs:p=true→Slots b own B (.slice AS nS cS) w) (hn:p=false→AS=none∧nS=0∧cS=0) :
  ∃ L,nS=L.length∧L.length≤100000∧Kd.C kSlt w AS nS L∧SchedOk b own.length 50 L∧(p=true→∀ k,k<own.length→lenOf (k:Int) L=wF own k):=by
 cases p with
 | false =>
  obtain ⟨rfl,rfl,rfl⟩:=hn rfl
  exact ⟨[],rfl,by simp,Kd.C_nil _ _,⟨fun s hs=>by simp at hs,List.Pairwise.nil⟩,fun h=>by cases h⟩
 | true =>
  obtain ⟨M,L,h1,h2,h3⟩:=(hs rfl).ex
  obtain ⟨A,c,he,_,hC⟩:=Kd.R_reads h3
  cases he
  obtain ⟨g1,g2⟩:=h1.sched (T:=50) (fun x hx=>(hJ x hx).ok) (fun x hx=>(hJ x hx).2.2.1)
  exact ⟨L,rfl,by rw [h2.length_eq];exact h1.count hol (fun x hx=>(hJ x hx).ok),hC,g1.perm h2,fun _ k hk=>by rw [lenOf_perm _ h2];exact g2 k hk⟩
theorem infoBx:(Tryz.prog.info? 67).map (fun i=>(i.zero,i.size,i.bytes))=some (some (.agg #[.int .i64 0,.int .i64 0,.int .i64 0,.int .i64 0,.int .i64 0]),5,40):=by kernel_rfl
theorem apart_nil (w:World):Calls Tryz.prog 23 #[.slice none 0 0] w fun e w'=>e=.returned (.bool true)∧Below w.heap.size w w':=by
 go_enter Tryz.func23,Tryz.ntmps23
 go_wp2_with (fail)
 go_loopg [3] 0 (fun kq v3 w'=>v3=.int .i64 0∧w' = w)
 case atStart=>exact ⟨rfl,rfl⟩
 case round =>
  obtain ⟨rfl,rfl⟩:=hrel
  go_wp2_with (fail)
  go_ret
  exact ⟨rfl,Below.refl _ _⟩
set_option maxRecDepth 100000 in
theorem apart_R {w:World} {base:Nat} {v:Value} {l:List Bx} (h:Kd.R k67 67 w base (fun _=>True) v l) (hl:l.length≤1000000) (hok:∀ k,k<l.length→BoxOk (rd_T67 l (k:Int)))
  (hap:∀ k i,k<i→i<l.length→ApartB (rd_T67 l (i:Int)) (rd_T67 l (k:Int))) :
  Calls Tryz.prog 23 #[v] w fun e w'=>e=.returned (.bool true)∧Below w.heap.size w w':=by
 obtain ⟨A,c,he,_,hC⟩:=Kd.R_reads h
 obtain ⟨_,inner,ho,_⟩:=h
 rcases ho.2 with ⟨hv,hz⟩ | ⟨g,cap,cur,hv,_,_,_⟩
 ·rw [hv];exact apart_nil w
 ·rw [hv] at he
  cases he
  rw [hv]
  exact apart_walk l g _ w hl hC hok hap
def AnsAt (b:Nat) (p:Bool) (v1 v2 v3:Value) (w:World):Prop:=w.heap[b]?=some (.cells #[.bool p,v1,v2,v3] 53 (0,0))
theorem AnsAt.cells {b:Nat} {p:Bool} {v1 v2 v3:Value} {w:World} (h:AnsAt b p v1 v2 v3 w):w.cell? ⟨b,0,none⟩=some (.bool p)∧w.cell? ⟨b,1,none⟩=some v1:=by
 constructor <;> (rw [blk_cell h];rfl)
set_option maxHeartbeats 8000000 in
set_option maxRecDepth 100000 in
theorem TopSlots_walk (benches:Int) (l:List S76) (A0:Option Addr) (c0:Nat) (w:World) (hl:l.length≤9223372036854775807) (hC:Kd.C k76 w A0 l.length l) (hz:NoneAt w) :
  Calls Tryz.prog 6 #[.int .i64 benches,.slice A0 l.length c0] w fun e w'=>e=.returned (.bool true)∧Below w.heap.size w w':=by
 have HZ:=hid hz
 have HJW:=hid (jobs_walk l A0 c0 w hl hC)
 obtain ⟨r,hr,hm⟩:=mod_call benches 4 (by omega) (by omega)
 have HM:=hid hm
 obtain ⟨nb,hnb⟩:∃ nb,nb=1+r:=⟨_,rfl⟩
 have hnI:1+(r:Int)=(nb:Int):=by omega
 have hnb1:1≤nb:=by omega
 have hnb8:nb≤4:=by omega
 have q1:=w64_n (n:=nb) (by omega)
 obtain ⟨B,hB⟩:∃ B,B=w.heap.size:=⟨_,rfl⟩
 have HBE:=hid hB
 clear hz hC hm hr hnb hB
 go_enter Tryz.func6,Tryz.ntmps6
 go_wp2_with (fail)
 refine HJW.out.mono ?_
 rintro e w1 ⟨v1,own,rfl,hr1,hol,hoi,hb1⟩
 obtain ⟨AO,cO,rfl,hcO,hCO⟩:=Kd.R_reads hr1
 have HO1:=Aside0.mk hCO
 have HOI:=hid hoi
 have HB1:=Aside0.mk hb1
 clear hr1 hoi hb1 hCO HJW
 obtain ⟨no,hno⟩:∃ no,no=own.length:=⟨_,rfl⟩
 rw [← hno] at HO1 hol hcO ⊢
 have HNO:=hid hno
 clear hno
 go_wp2_with (fail)
 refine (HM.out _).mono ?_
 rintro e w2 ⟨rfl,hb2⟩
 have HB2:=Aside0.mk (HB1.out.trans (hb2.mono HB1.out.size))
 have HO2:=Aside0.mk (Kd.C_below HO1.out hb2)
 clear hb2 HB1 HO1 HM
 go_wp2_with (fail)
 have hPW:=Plan_walk nb AO cO own w2 hnb1 (by omega) (by rw [← HNO.out];omega) (by rw [← HNO.out];exact HO2.out) (fun x hx=>(HOI.out x hx).ok) (HZ.out.below HB2.out) (fun M hC=>hC.count (by rw [← HNO.out];omega) (fun x hx=>(HOI.out x hx).ok))
 rw [← HNO.out] at hPW
 have HPW:=hid hPW
 clear hPW
 refine HPW.out.mono ?_
 rintro e w3 ⟨p,AS,nS,cS,A2,n2,c2,A3,n3,c3,sum,M,rfl,hC,hp,⟨hs1,hs2⟩,hb3⟩
 obtain ⟨L,hnL,hLB,hCL,hSC,hWK⟩:=plan_slots (by rw [← HNO.out];omega) HOI.out hs1 hs2
 have HLL:=hid hLB
 have HNL:=hid hnL
 have HL3:=Aside0.mk hCL
 have HSC:=hid hSC
 have HWK:=hid hWK
 have HB3:=Aside0.mk (HB2.out.trans (hb3.mono HB2.out.size))
 have HO3:=Aside0.mk (Kd.C_below HO2.out hb3)
 clear hnL hLB hCL hSC hWK hs1 hs2 hp hC hb3 HB2 HO2 HPW
 have HA4:=hid (show AnsAt w3.heap.size p (.slice AS nS cS) (.slice A2 n2 c2) (.slice A3 n3 c3) (w3.alloc (.cells #[.bool p,.slice AS nS cS,.slice A2 n2 c2,.slice A3 n3 c3] 53)) from blk_new _ _)
 obtain ⟨W4,hW4⟩:∃ W4,W4=w3.alloc (.cells #[.bool p,.slice AS nS cS,.slice A2 n2 c2,.slice A3 n3 c3] 53):=⟨_,rfl⟩
 obtain ⟨ab,hab⟩:∃ ab,ab=w3.heap.size:=⟨_,rfl⟩
 have HB4:=Aside0.mk (show Below w3.heap.size w3 W4 by rw [hW4];exact (Below.refl _ _).alloc (Nat.le_refl _) _)
 rw [← hW4,← hab] at HA4
 have HAB:=hid (show w3.heap.size≤ab by omega)
 have hmk:=print_make (P:=Tryz.prog) 43 3 .i64 8 Tryz.underlying43 infoIntN (by decide) no (by omega)
 have HN5:=hid (nums_made no W4)
 have HB5:=Aside0.mk (show Below w3.heap.size w3 (W4.alloc (.cells (madeCells #[.int .i64 0] no) 3)) from HB4.out.alloc HB4.out.size _)
 have HA5:=hid (show AnsAt ab p (.slice AS nS cS) (.slice A2 n2 c2) (.slice A3 n3 c3) (W4.alloc (.cells (madeCells #[.int .i64 0] no) 3)) from blk_alloc HA4.out _)
 go_upto_region 6 with (fail)
 rw [← hW4,← hab]
 clear hW4 hab
 go_wp2_with (fail)
 obtain ⟨W5,hW5⟩:∃ W5,W5=W4.alloc (.cells (madeCells #[.int .i64 0] no) 3):=⟨_,rfl⟩
 obtain ⟨wb,hwb⟩:∃ wb,wb=W4.heap.size:=⟨_,rfl⟩
 rw [← hW5] at HN5 HB5 HA5 ⊢
 rw [← hwb] at HN5 ⊢
 have HWB:=hid (show w3.heap.size≤wb by rw [hwb];exact HB4.out.size)
 obtain ⟨B3,hB3⟩:∃ B3,B3=w3.heap.size:=⟨_,rfl⟩
 have HB3E:=hid hB3
 rw [← hB3] at HAB HWB HB5
 clear hW5 hwb hB3 hmk HA4 HB4
 have HR9:=Aside0.mk (Kd.R_nil k67 67 W5 B3 (fun _=>True))
 have HR10:=Aside0.mk (Kd.R_nil k67 67 W5 B3 (fun _=>True))
 have HNE:=hid (ne_nil (.slice none 0 0))
 have HN0:=hid (show NumsAt wb (wsF no (L.take 0)) W5 from HN5.out)
 rw [HNL.out]
 go_loopg [9,10,12] L.length (fun kq v9 v10 v12 w'=>∃ i:Nat,v12=.int .i64 i∧i+kq=L.length∧Aside0 (Kd.R k67 67 w' B3 (fun _=>True) v9 (hereF (L.take i)))∧Aside0 (Kd.R k67 67 w' B3 (fun _=>True) v10 (thereF (L.take i)))∧Hid (NeRow v9 v10)∧Hid (NumsAt wb (wsF no (L.take i)) w')∧Hid (AnsAt ab p (.slice AS L.length cS) (.slice A2 n2 c2) (.slice A3 n3 c3) w')∧Aside0 (Below B3 w3 w'))
 case atStart=>exact ⟨0,rfl,by omega,HR9,HR10,HNE,HN0,by rw [← HNL.out];exact HA5,HB5⟩
 case round =>
  clear HR9 HR10 HNE HN0 HA5 HB5 HN5
  obtain ⟨i,rfl,hi,HR9,HR10,HNE,HN,HA,HBL⟩:=hrel
  obtain ⟨a0,a1⟩:=HA.out.cells
  by_cases hlt:i<L.length
  ·have d1:decide ((i:Int)<(L.length:Int))=true:=decide_eq_true (by omega)
   have i0:(0:Int)≤(i:Int):=by omega
   have i1:(i:Int)<(L.length:Int):=by omega
   have i2:(i:Int)<100000:=by have:=HLL.out;clear q1;omega
   have hbw:Below w3.heap.size w3 wr:=by have h:=HBL.out;rw [HB3E.out] at h;exact h
   have hLr:=Kd.C_below HL3.out hbw
   rw [HNL.out] at hLr
   obtain ⟨ad,e0,s0,s1,s2,s3⟩:=at_Slt hLr (i:Int) i0 i1
   rw [Int.toNat_natCast] at s0 s1 s2 s3
   subst e0
   have hme:=HSC.out.each _ (show rd_Slt L (i:Int) ∈ L by rw [rdS hlt];exact List.getElem_mem hlt)
   obtain ⟨s,hs⟩:∃ s,s=rd_Slt L (i:Int):=⟨_,rfl⟩
   rw [← hs] at s0 s1 s2 s3 hme
   obtain ⟨m1,m2,m3,m4,m5,m6,m7⟩:=hme
   obtain ⟨j,hj⟩:∃ j:Nat,s.j=(j:Int):=⟨s.j.toNat,by omega⟩
   have hsr:=hs
   have hwn:=wsF_next no L i hlt j (by rw [← hs];exact hj)
   have hht:=hereF_take L i hlt
   have htt:=thereF_take L i hlt
   rw [← hs] at hwn hht htt
   obtain ⟨sj,sb,sf,st⟩:=s
   dsimp only at hj s0 s1 s2 s3 m1 m2 m3 m4 m5 m6 m7 hwn hht htt
   subst hj
   have m2' : (j:Int)<(no:Int):=by rw [HNO.out];exact m2
   have hjn:j<no:=by omega
   have HHT:=hid hht
   have HTT:=hid htt
   have HLT:=hid hlt
   have ne1:st-sf≤1000:=by omega
   obtain ⟨x,hx⟩:∃ x,x=lenOf (j:Int) (L.take i):=⟨_,rfl⟩
   have hxb:=lenOf_bd (HSC.out.take i) (j:Int)
   rw [← hx] at hxb hwn
   have hxl:x≤5000000:=by have:=HLL.out;rw [List.length_take] at hxb;omega
   have hwg:=wsF_get no (L.take i) j hjn
   rw [← hx] at hwg
   have HWG:=hid hwg
   have HWN:=hid (hwn hjn)
   have HQ:=hid (q_add hxb.1 hxl m5 m6 m7)
   have q2:wrap64 (st-sf)=st-sf:=w64_in _ (by clear q1;omega) (by clear q1;omega)
   clear hs hsr hlt hbw hLr m2 hwn hht htt hx hxb hxl hwg
   have HSB:=hid (blk_new wr (.cells #[.int .i64 (j:Int),.int .i64 sb,.int .i64 sf,.int .i64 st] 72))
   obtain ⟨W6,hW6⟩:∃ W6,W6=wr.alloc (.cells #[.int .i64 (j:Int),.int .i64 sb,.int .i64 sf,.int .i64 st] 72):=⟨_,rfl⟩
   obtain ⟨sx,hsx⟩:∃ sx,sx=wr.heap.size:=⟨_,rfl⟩
   have HB3s:=hid (show B3≤wr.heap.size by rw [HB3E.out];exact HBL.out.size)
   have HR9a:=Aside0.mk (show Kd.R k67 67 W6 B3 (fun _=>True) u9 (hereF (L.take i)) by rw [hW6];exact Kd.R_alloc HR9.out _)
   have HR10a:=Aside0.mk (show Kd.R k67 67 W6 B3 (fun _=>True) u10 (thereF (L.take i)) by rw [hW6];exact Kd.R_alloc HR10.out _)
   have HNa:=hid (show NumsAt wb (wsF no (L.take i)) W6 by rw [hW6];exact blk_alloc HN.out _)
   have HAa:=hid (show AnsAt ab p (.slice (some ad) L.length cS) (.slice A2 n2 c2) (.slice A3 n3 c3) W6 by rw [hW6];exact blk_alloc HA.out _)
   have HBa:=Aside0.mk (show Below B3 w3 W6 by rw [hW6];exact HBL.out.alloc HB3s.out _)
   have HB6s:=hid (show B3≤W6.heap.size by rw [hW6];have:=HB3s.out;simp;omega)
   rw [← hW6,← hsx] at HSB
   go_upto_region 11 with (fail)
   rw [← hW6,← hsx]
   clear hW6 hsx HR9 HR10 HN HA HBL s0 s1 s2 s3 a0 a1
   obtain ⟨c0',c1',c2',c3'⟩:W6.cell? ⟨sx,0,none⟩=some (.int .i64 (j:Int))∧W6.cell? ⟨sx,1,none⟩=some (.int .i64 sb)∧W6.cell? ⟨sx,2,none⟩=some (.int .i64 sf)∧W6.cell? ⟨sx,3,none⟩=some (.int .i64 st):=by
    refine ⟨?_,?_,?_,?_⟩ <;> (rw [blk_cell HSB.out];rfl)
   have dd1:decide ((j:Int)<0)=false:=decide_eq_false (by omega)
   have dd2:decide (no≤j)=false:=decide_eq_false (by omega)
   have dd3:decide (sb<0)=false:=decide_eq_false (by omega)
   have dd4:decide ((nb:Int)≤sb)=false:=decide_eq_false (by omega)
   have dd5:decide (sf<0)=false:=decide_eq_false (by omega)
   have dd6:decide (st≤sf)=false:=decide_eq_false (by omega)
   have dd7:decide (100<st)=false:=decide_eq_false (by omega)
   go_upto_region 13 with (fail)
   clear dd1 dd2 dd3 dd4 dd5 dd6 dd7 m3 m4 m5 m6 m7 ne1
   have hlB:40*(i+1)≤140737488355328:=by have:=HLL.out;have:=HLT.out;clear q1 q2;omega
   have HLB:=hid hlB
   clear hlB
   have HP1:=Aside0.mk (show k67.M W6 B3 (fun _=>False) ⟨sf,sb,st-sf,1,0⟩ [.int .i64 sf,.int .i64 sb,.int .i64 (st-sf),.int .i64 1,.int .i64 0] from k67_mkM _ _ _ _)
   go_upto_region 14 with ((with_reducible refine gate_builtin (b:=.append) (xs:=#[.tmp 81,.tmp 92]) rfl ?_);at_builtin;refine Kd.R_append k67 (w0:=w3) B3 rfl (.tmp 81) (.tmp 92) 63 67 (.agg #[.int .i64 0,.int .i64 0,.int .i64 0,.int .i64 0,.int .i64 0]) 40 rfl Tryz.underlying63 infoBx rfl (by decide) (by omega) _ (hereF (L.take i)) ⟨sf,sb,st-sf,1,0⟩ [.int .i64 sf,.int .i64 sb,.int .i64 (st-sf),.int .i64 1,.int .i64 0] (fun _=>True) (fun _=>False) rfl rfl HP1.out (fun _ hk=>hk.elim) (fun _ _=>trivial) HR9a.out HBa.out HB6s.out ?aL ?_;(case aL=>rw [hereF_len,List.length_take];have:=HLB.out;omega);intro v7 w7 ho hb hg hat;have HO7:=Aside0.mk ho;have HB7:=Aside0.mk hb;have HG7:=Aside0.mk hg;have HT7:=hid hat;clear ho hb hg hat)
   have hn7:some wb≠Value.ownBlock u9:=Kd.R_ne HR9a.out HNa.out (by decide)
   have ha7:some ab≠Value.ownBlock u9:=Kd.R_ne HR9a.out HAa.out (by decide)
   have hs7:some sx≠Value.ownBlock u9:=Kd.R_ne HR9a.out HSB.out (by decide)
   have HN7:=hid (show NumsAt wb (wsF no (L.take i)) w7 from blk_grown HNa.out HG7.out hn7)
   have HA7:=hid (show AnsAt ab p (.slice (some ad) L.length cS) (.slice A2 n2 c2) (.slice A3 n3 c3) w7 from blk_grown HAa.out HG7.out ha7)
   have HS7:=hid (blk_grown HSB.out HG7.out hs7)
   have HR9b:=Aside0.mk (show Kd.R k67 67 w7 B3 (fun _=>True) v7 (hereF (L.take (i+1))) by rw [HHT.out];exact HO7.out)
   have flat:∀ {W:World} {ok1 ok2:Nat→Prop} {x:Bx} {cs:List Value},k67.M W B3 ok1 x cs→k67.M W B3 ok2 x cs:=fun h=>by rw [k67_openM h];exact k67_mkM _ _ _ _
   have HFL:=hid (fun W ok1 ok2 (x:Bx) cs=>@flat W ok1 ok2 x cs)
   clear flat
   have HR10b:=Aside0.mk (show Kd.R k67 67 w7 B3 (fun _=>True) u10 (thereF (L.take i)) from
    Kd.R_mono (Kd.R_grown (Kd.R_flat (ok':=fun k=>some k≠Value.ownBlock u9) (fun {ok1 ok2 x cs} h=>HFL.out W6 ok1 ok2 x cs h) HR10a.out (fun k hk _ e=>HNE.out k e.symm hk)) HG7.out (fun k hk=>hk)) (fun _ _=>trivial))
   obtain ⟨in10,ho10⟩:=Kd.R_own HR10a.out
   have HNE7:=hid (show NeRow v7 u10 from ne_append HNE.out HT7.out ho10)
   have HB7s:=hid (show B3≤w7.heap.size by rw [HB3E.out];exact HB7.out.size)
   clear hn7 ha7 hs7 ho10 HT7 HNE HR10a HR9a HNa HAa HSB HBa HB6s HG7 HO7 HP1 HHT c0' c1' c2' c3'
   obtain ⟨c0',c1',c2',c3'⟩:w7.cell? ⟨sx,0,none⟩=some (.int .i64 (j:Int))∧w7.cell? ⟨sx,1,none⟩=some (.int .i64 sb)∧w7.cell? ⟨sx,2,none⟩=some (.int .i64 sf)∧w7.cell? ⟨sx,3,none⟩=some (.int .i64 st):=by
    refine ⟨?_,?_,?_,?_⟩ <;> (rw [blk_cell HS7.out];rfl)
   have HP2:=Aside0.mk (show k67.M w7 B3 (fun _=>False) ⟨sf,(j:Int),st-sf,1,0⟩ [.int .i64 sf,.int .i64 (j:Int),.int .i64 (st-sf),.int .i64 1,.int .i64 0] from k67_mkM _ _ _ _)
   go_wp2_with ((with_reducible refine gate_builtin (b:=.append) (xs:=#[.tmp 94,.tmp 105]) rfl ?_);at_builtin;refine Kd.R_append k67 (w0:=w3) B3 rfl (.tmp 94) (.tmp 105) 63 67 (.agg #[.int .i64 0,.int .i64 0,.int .i64 0,.int .i64 0,.int .i64 0]) 40 rfl Tryz.underlying63 infoBx rfl (by decide) (by omega) _ (thereF (L.take i)) ⟨sf,(j:Int),st-sf,1,0⟩ [.int .i64 sf,.int .i64 (j:Int),.int .i64 (st-sf),.int .i64 1,.int .i64 0] (fun _=>True) (fun _=>False) rfl rfl HP2.out (fun _ hk=>hk.elim) (fun _ _=>trivial) HR10b.out HB7.out HB7s.out ?aL ?_;(case aL=>rw [thereF_len,List.length_take];have:=HLB.out;omega);intro v8 w8 ho hb hg hat;have HO8:=Aside0.mk ho;have HB8:=Aside0.mk hb;have HG8:=Aside0.mk hg;have HT8:=hid hat;clear ho hb hg hat)
   have hn8:some wb≠Value.ownBlock u10:=Kd.R_ne HR10b.out HN7.out (by decide)
   have ha8:some ab≠Value.ownBlock u10:=Kd.R_ne HR10b.out HA7.out (by decide)
   have hs8:some sx≠Value.ownBlock u10:=Kd.R_ne HR10b.out HS7.out (by decide)
   have HN8:=hid (show NumsAt wb (wsF no (L.take i)) w8 from blk_grown HN7.out HG8.out hn8)
   have HA8:=hid (show AnsAt ab p (.slice (some ad) L.length cS) (.slice A2 n2 c2) (.slice A3 n3 c3) w8 from blk_grown HA7.out HG8.out ha8)
   have HS8:=hid (blk_grown HS7.out HG8.out hs8)
   have HR10c:=Aside0.mk (show Kd.R k67 67 w8 B3 (fun _=>True) v8 (thereF (L.take (i+1))) by rw [HTT.out];exact HO8.out)
   have HR9c:=Aside0.mk (show Kd.R k67 67 w8 B3 (fun _=>True) v7 (hereF (L.take (i+1))) from
    Kd.R_mono (Kd.R_grown (Kd.R_flat (ok':=fun k=>some k≠Value.ownBlock u10) (fun {ok1 ok2 x cs} h=>HFL.out w7 ok1 ok2 x cs h) HR9b.out (fun k hk _ e=>HNE7.out k hk e.symm)) HG8.out (fun k hk=>hk)) (fun _ _=>trivial))
   obtain ⟨in9,ho9⟩:=Kd.R_own HR9b.out
   have HNE8:=hid (show NeRow v7 v8 from ne_append' HNE7.out HT8.out ho9)
   clear hn8 ha8 hs8 ho9 HT8 HNE7 HR10b HR9b HN7 HA7 HS7 HB7 HB7s HG8 HO8 HP2 HTT c0' c1' c2' c3'
   obtain ⟨b0,b2,b3⟩:w8.cell? ⟨sx,0,none⟩=some (.int .i64 (j:Int))∧w8.cell? ⟨sx,2,none⟩=some (.int .i64 sf)∧w8.cell? ⟨sx,3,none⟩=some (.int .i64 st):=by
    refine ⟨?_,?_,?_⟩ <;> (rw [blk_cell HS8.out];rfl)
   have bw:=HN8.out.cell HWG.out
   have fz:∀ o,w8.frozen? ⟨wb,o,none⟩=false:=fun o=>blk_frozen HN8.out o
   have HS:=hid (show (fun w' : World=>w'.cell? ⟨sx,0,none⟩=some (.int .i64 (j:Int))∧w'.cell? ⟨sx,2,none⟩=some (.int .i64 sf)∧w'.cell? ⟨sx,3,none⟩=some (.int .i64 st)∧w'.cell? ⟨wb,j,none⟩=some (.int .i64 x)) w8.drew from ⟨b0,b2,b3,bw⟩)
   obtain ⟨qa,qb⟩:=HQ.out
   clear b0 b2 b3
   refine start_ (n:=16) (S:=fun w'=>w'.cell? ⟨sx,0,none⟩=some (.int .i64 (j:Int))∧w'.cell? ⟨sx,2,none⟩=some (.int .i64 sf)∧w'.cell? ⟨sx,3,none⟩=some (.int .i64 st)∧w'.cell? ⟨wb,j,none⟩=some (.int .i64 x)) (ds:=[15]) #[false,false,false,false,false,false,false,false,false,false,false,false,false,false,false,false] (by kernel_rfl) rfl rfl HS.out (fun hHeld=>?_)
   refine pure_ (i:=0) (N:=some 107) (v:=?_) (a':=?_) #[true,false,false,false,false,false,false,false,false,false,false,false,false,false,false,false] rfl rfl (by kernel_rfl) (fun _ _ _ h=>h) (Or.inl ⟨by rfl,?_⟩) ?_ ?_
   rotate_left
   ·intro w'
    go_simp
    with_reducible rfl
   rotate_left
   ·simp only [Act.put,sp__,i64_w,i32_w]
    rfl
   refine pure_ (i:=1) (N:=some 108) (v:=?_) (a':=?_) #[true,true,false,false,false,false,false,false,false,false,false,false,false,false,false,false] rfl rfl (by kernel_rfl) (fun _ _ _ h=>h) (Or.inl ⟨by rfl,?_⟩) ?_ ?_
   rotate_left
   ·intro w'
    go_simp
    with_reducible rfl
   rotate_left
   ·simp only [Act.put,sp__,i64_w,i32_w]
    rfl
   refine take_ (i:=2) (N:=some 109) (v:=?_) (a':=?_) #[true,true,true,false,false,false,false,false,false,false,false,false,false,false,false,false] rfl rfl (by kernel_rfl) (fun _ _ _ h=>h) (Or.inl ⟨by rfl,?_⟩) hHeld ?_ ?_
   rotate_left
   ·rintro w' ⟨s0,s1,s2,s3⟩
    go_simp
    with_reducible rfl
   rotate_left
   ·simp only [Act.put,sp__,i64_w,i32_w]
    rfl
   refine pure_ (i:=3) (N:=some 110) (v:=?_) (a':=?_) #[true,true,true,true,false,false,false,false,false,false,false,false,false,false,false,false] rfl rfl (by kernel_rfl) (fun _ _ _ h=>h) (Or.inl ⟨by rfl,?_⟩) ?_ ?_
   rotate_left
   ·intro w'
    go_simp
    with_reducible rfl
   rotate_left
   ·simp only [Act.put,sp__,i64_w,i32_w]
    rfl
   refine pure_ (i:=4) (N:=some 111) (v:=?_) (a':=?_) #[true,true,true,true,true,false,false,false,false,false,false,false,false,false,false,false] rfl rfl (by kernel_rfl) (fun _ _ _ h=>h) (Or.inl ⟨by rfl,?_⟩) ?_ ?_
   rotate_left
   ·intro w'
    go_simp
    with_reducible rfl
   rotate_left
   ·simp only [Act.put,sp__,i64_w,i32_w]
    rfl
   refine take_ (i:=5) (N:=some 112) (v:=?_) (a':=?_) #[true,true,true,true,true,true,false,false,false,false,false,false,false,false,false,false] rfl rfl (by kernel_rfl) (fun _ _ _ h=>h) (Or.inl ⟨by rfl,?_⟩) hHeld ?_ ?_
   rotate_left
   ·rintro w' ⟨s0,s1,s2,s3⟩
    go_simp
    with_reducible rfl
   rotate_left
   ·simp only [Act.put,sp__,i64_w,i32_w]
    rfl
   refine pure_ (i:=6) (N:=some 113) (v:=?_) (a':=?_) #[true,true,true,true,true,true,true,false,false,false,false,false,false,false,false,false] rfl rfl (by kernel_rfl) (fun _ _ _ h=>h) (Or.inl ⟨by rfl,?_⟩) ?_ ?_
   rotate_left
   ·intro w'
    go_simp
    with_reducible rfl
   rotate_left
   ·simp only [Act.put,sp__,i64_w,i32_w]
    rfl
   refine take_ (i:=7) (N:=some 114) (v:=?_) (a':=?_) #[true,true,true,true,true,true,true,true,false,false,false,false,false,false,false,false] rfl rfl (by kernel_rfl) (fun _ _ _ h=>h) (Or.inl ⟨by rfl,?_⟩) hHeld ?_ ?_
   rotate_left
   ·rintro w' ⟨s0,s1,s2,s3⟩
    go_simp
    with_reducible rfl
   rotate_left
   ·simp only [Act.put,sp__,i64_w,i32_w]
    rfl
   refine pure_ (i:=8) (N:=some 115) (v:=?_) (a':=?_) #[true,true,true,true,true,true,true,true,true,false,false,false,false,false,false,false] rfl rfl (by kernel_rfl) (fun _ _ _ h=>h) (Or.inl ⟨by rfl,?_⟩) ?_ ?_
   rotate_left
   ·intro w'
    go_simp
    with_reducible rfl
   rotate_left
   ·simp only [Act.put,sp__,i64_w,i32_w]
    rfl
   refine take_ (i:=9) (N:=some 116) (v:=?_) (a':=?_) #[true,true,true,true,true,true,true,true,true,true,false,false,false,false,false,false] rfl rfl (by kernel_rfl) (fun _ _ _ h=>h) (Or.inl ⟨by rfl,?_⟩) hHeld ?_ ?_
   rotate_left
   ·rintro w' ⟨s0,s1,s2,s3⟩
    go_simp
    with_reducible rfl
   rotate_left
   ·simp only [Act.put,sp__,i64_w,i32_w]
    rfl
   refine pure_ (i:=10) (N:=some 117) (v:=?_) (a':=?_) #[true,true,true,true,true,true,true,true,true,true,true,false,false,false,false,false] rfl rfl (by kernel_rfl) (fun _ _ _ h=>h) (Or.inl ⟨by rfl,?_⟩) ?_ ?_
   rotate_left
   ·intro w'
    go_simp
    with_reducible rfl
   rotate_left
   ·simp only [Act.put,sp__,i64_w,i32_w]
    rfl
   refine pure_ (i:=11) (N:=some 118) (v:=?_) (a':=?_) #[true,true,true,true,true,true,true,true,true,true,true,true,false,false,false,false] rfl rfl (by kernel_rfl) (fun _ _ _ h=>h) (Or.inl ⟨by rfl,?_⟩) ?_ ?_
   rotate_left
   ·intro w'
    go_simp
    with_reducible rfl
   rotate_left
   ·simp only [Act.put,sp__,i64_w,i32_w]
    rfl
   refine take_ (i:=12) (N:=some 119) (v:=?_) (a':=?_) #[true,true,true,true,true,true,true,true,true,true,true,true,true,false,false,false] rfl rfl (by kernel_rfl) (fun _ _ _ h=>h) (Or.inl ⟨by rfl,?_⟩) hHeld ?_ ?_
   rotate_left
   ·rintro w' ⟨s0,s1,s2,s3⟩
    go_simp
    with_reducible rfl
   rotate_left
   ·simp only [Act.put,sp__,i64_w,i32_w]
    rfl
   refine pure_ (i:=13) (N:=some 120) (v:=?_) (a':=?_) #[true,true,true,true,true,true,true,true,true,true,true,true,true,true,false,false] rfl rfl (by kernel_rfl) (fun _ _ _ h=>h) (Or.inl ⟨by rfl,?_⟩) ?_ ?_
   rotate_left
   ·intro w'
    go_simp
    with_reducible rfl
   rotate_left
   ·simp only [Act.put,sp__,i64_w,i32_w]
    rfl
   refine pure_ (i:=14) (N:=some 121) (v:=?_) (a':=?_) #[true,true,true,true,true,true,true,true,true,true,true,true,true,true,true,false] rfl rfl (by kernel_rfl) (fun _ _ _ h=>h) (Or.inl ⟨by rfl,?_⟩) ?_ ?_
   rotate_left
   ·intro w'
    go_simp
    with_reducible rfl
   rotate_left
   ·simp only [Act.put,sp__,i64_w,i32_w]
    rfl
   refine last_ (i:=15) (N:=none) #[true,true,true,true,true,true,true,true,true,true,true,true,true,true,true,true] rfl rfl (by kernel_rfl) (by decide) (fun K hK=>?_)
   refine skip_ (w1:=?_) (by rfl) rfl ?_ ?_
   rotate_left
   ·go_simp
    rfl
   refine hK.out _ _ ?_
   clear hK K
   refine done_ (by kernel_rfl) ?_
   have HN9:=hid (show NumsAt wb (wsF no (L.take (i+1))) ((w8.setCell ⟨wb,j,none⟩ (.int .i64 (x+st-sf))).drew) from by rw [← HWN.out];exact HN8.out.set j (x+st-sf))
   have hN8:w8.heap[wb]?=some (.cells ((wsF no (L.take i)).map (Value.int .i64)).toArray 3 (0,0)):=HN8.out
   have HA9:=hid (show AnsAt ab p (.slice (some ad) L.length cS) (.slice A2 n2 c2) (.slice A3 n3 c3) (w8.setCell ⟨wb,j,none⟩ (.int .i64 (x+st-sf))).drew from blk_far HA8.out (p:=⟨wb,j,none⟩) (blk_ne HA8.out hN8 (by decide)) _)
   have HR9d:=Aside0.mk (Kd.R_drew (Kd.R_set HR9c.out hN8 (by decide) j (.int .i64 (x+st-sf))))
   have HR10d:=Aside0.mk (Kd.R_drew (Kd.R_set HR10c.out hN8 (by decide) j (.int .i64 (x+st-sf))))
   have HB9:=Aside0.mk (show Below B3 w3 (w8.setCell ⟨wb,j,none⟩ (.int .i64 (x+st-sf))).drew from (HB8.out.setCell HWB.out _).drew)
   clear hN8 fz bw HR9c HR10c HN8 HA8 HS8 HB8 HS qa qb
   go_wp2_with (fail)
   go_roundg (L.length-(i+1))
   case rel=>exact ⟨i+1,by clear q1 q2;go_num,by have:=HLT.out;clear q1 q2;omega,HR9d,HR10d,HNE8,HN9,HA9,HB9⟩
   case measure=>have:=HLT.out;clear q1 q2;omega
  ·have hiL:i=L.length:=by omega
   subst hiL
   have d1:decide ((L.length:Int)<(L.length:Int))=false:=decide_eq_false (by omega)
   rw [List.take_length] at HR9 HR10 HN
   have hbw:Below w3.heap.size w3 wr:=by have h:=HBL.out;rw [HB3E.out] at h;exact h
   have HO9:=Aside0.mk (Kd.C_below HO3.out hbw)
   have HBB:=Aside0.mk (HB3.out.trans (hbw.mono HB3.out.size))
   clear hlt hbw HNE HBL
   go_upto_region 17 with (fail)
   go_loopg [14] no (fun kq v14 w'=>∃ m:Nat,v14=.int .i64 m∧m+kq=no∧Aside0 (Below wr.heap.size wr w'))
   case atStart=>exact ⟨0,rfl,by clear q1;omega,⟨Below.refl _ _⟩⟩
   case round =>
    obtain ⟨m,rfl,hm,HBI⟩:=hrel
    have HAm:=HA.out
    by_cases hmn:m<no
    ·have d2:decide ((m:Int)<(no:Int))=true:=decide_eq_true (by clear q1;omega)
     have i0:(0:Int)≤(m:Int):=by clear q1;omega
     have i1:(m:Int)<(no:Int):=by clear q1;omega
     have i2:(m:Int)<8:=by clear q1;omega
     have hA:=blk_below HAm HBI.out
     obtain ⟨a0,a1⟩:=AnsAt.cells hA
     clear hA HAm
     have hpp:p=false∨p=true:=by cases p <;> simp
     rcases hpp with rfl|rfl
     ·have HBx:=Aside0.mk (HBB.out.trans (HBI.out.mono HBB.out.size))
      have HRh:=Aside0.mk (Kd.R_below HR9.out HBI.out)
      have HRt:=Aside0.mk (Kd.R_below HR10.out HBI.out)
      clear HBI
      go_wp2_with (fail)
      refine (apart_R HRh.out (by rw [hereF_len];have:=HLL.out;omega) (here_ok HSC.out (by omega) (by rw [← HNO.out];exact hol)).1 (here_ok HSC.out (by omega) (by rw [← HNO.out];exact hol)).2).mono ?_
      rintro e wx1 ⟨rfl,hbx1⟩
      have HBy:=Aside0.mk (HBx.out.trans (hbx1.mono HBx.out.size))
      have HRt1:=Aside0.mk (Kd.R_below HRt.out hbx1)
      clear hbx1 HBx HRt HRh
      go_wp2_with (fail)
      refine (apart_R HRt1.out (by rw [thereF_len];have:=HLL.out;omega) (there_ok HSC.out (by omega) (by rw [← HNO.out];exact hol)).1 (there_ok HSC.out (by omega) (by rw [← HNO.out];exact hol)).2).mono ?_
      rintro e wx2 ⟨rfl,hbx2⟩
      have HBz:=Aside0.mk (HBy.out.trans (hbx2.mono HBy.out.size))
      clear hbx2 HBy HRt1
      go_wp2_with (fail)
      refine (four_walk _ (HZ.out.below HBz.out)).mono ?_
      rintro e wx3 ⟨rfl,hbx3⟩
      have HBq:=Aside0.mk (HBz.out.trans (hbx3.mono HBz.out.size))
      clear hbx3 HBz
      go_wp2_with (fail)
      go_ret
      exact ⟨rfl,HBq.out⟩
     ·have hwk:=HWK.out rfl m (by rw [← HNO.out];exact hmn)
      have hN:=blk_below HN.out HBI.out
      have hw:=NumsAt.cell hN (wsF_get no L m hmn)
      obtain ⟨ad,e0,o0,o1,o2⟩:=at_T76 (Kd.C_below HO9.out HBI.out) (m:Int) i0 i1
      rw [Int.toNat_natCast] at o0 o1 o2
      have ho2:(rd_T76 own (m:Int)).f2=lenOf (m:Int) L:=by
       rw [hwk]
       have hml:m<own.length:=by rw [← HNO.out];exact hmn
       unfold wF rd_T76
       rw [Int.toNat_natCast,List.getD_eq_getElem?_getD,List.getElem?_eq_getElem hml];rfl
      rw [ho2] at o2
      obtain ⟨x,hx⟩:∃ x,x=lenOf (m:Int) L:=⟨_,rfl⟩
      rw [← hx] at o2 hw
      have hxx:(x != x)=false:=by simp
      have HMN:=hid hmn
      have HBW:=hid (show wr.heap.size≤wr.heap.size from Nat.le_refl _)
      subst e0
      clear hwk hN ho2 hx o0 o1 hmn
      go_wp2_with (fail)
      go_quiet (fail)
      have HBI2:=Aside0.mk (HBI.out.trans ((pw_below_drewN (Below.refl _ _) nq).mono HBI.out.size))
      clear HBI hw o2 a0 a1
      go_wp2_with (fail)
      go_roundg (no-(m+1))
      case rel=>exact ⟨m+1,by clear q1;go_num,by have:=HMN.out;clear q1;omega,HBI2⟩
      case measure=>have:=HMN.out;clear q1;omega
    ·have d2:decide ((m:Int)<(no:Int))=false:=decide_eq_false (by clear q1;omega)
     clear HAm
     have HBx:=Aside0.mk (HBB.out.trans (HBI.out.mono HBB.out.size))
     have HRh:=Aside0.mk (Kd.R_below HR9.out HBI.out)
     have HRt:=Aside0.mk (Kd.R_below HR10.out HBI.out)
     clear HBI
     go_wp2_with (fail)
     refine (apart_R HRh.out (by rw [hereF_len];have:=HLL.out;omega) (here_ok HSC.out (by omega) (by rw [← HNO.out];exact hol)).1 (here_ok HSC.out (by omega) (by rw [← HNO.out];exact hol)).2).mono ?_
     rintro e wx1 ⟨rfl,hbx1⟩
     have HBy:=Aside0.mk (HBx.out.trans (hbx1.mono HBx.out.size))
     have HRt1:=Aside0.mk (Kd.R_below HRt.out hbx1)
     clear hbx1 HBx HRt HRh
     go_wp2_with (fail)
     refine (apart_R HRt1.out (by rw [thereF_len];have:=HLL.out;omega) (there_ok HSC.out (by omega) (by rw [← HNO.out];exact hol)).1 (there_ok HSC.out (by omega) (by rw [← HNO.out];exact hol)).2).mono ?_
     rintro e wx2 ⟨rfl,hbx2⟩
     have HBz:=Aside0.mk (HBy.out.trans (hbx2.mono HBy.out.size))
     clear hbx2 HBy HRt1
     go_wp2_with (fail)
     refine (four_walk _ (HZ.out.below HBz.out)).mono ?_
     rintro e wx3 ⟨rfl,hbx3⟩
     have HBq:=Aside0.mk (HBz.out.trans (hbx3.mono HBz.out.size))
     clear hbx3 HBz
     go_wp2_with (fail)
     go_ret
     exact ⟨rfl,HBq.out⟩
end Go.Proofs.YtiioklboaookiaaGreatDoor.Q
