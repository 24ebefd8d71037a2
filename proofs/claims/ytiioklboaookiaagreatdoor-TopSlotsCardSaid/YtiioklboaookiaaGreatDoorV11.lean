/- A part of the proof: what the law's row needs. -/
import Derived.Test.YtiioklboaookiaaGreatDoorV10
namespace Go.Proofs.YtiioklboaookiaaGreatDoor.Q
open Go.RowKit Go.Proofs.YtiioklboaookiaaGreatDoorW.PrintWords Go.Proofs.YtiioklboaookiaaGreatDoorW.PrintLast Go.Proofs.YtiioklboaookiaaGreatDoor.Hand Go.Proofs.YtiioklboaookiaaGreatDoorW.PrintMore
attribute [local go_sem] max2_int min2_int max_two min_two max_three min_three max_four min_four
set_option linter.unusedVariables false
set_option linter.unusedSimpArgs false
def plane_isSet.f (l:List S159):Option Bool:=if 1≤l.length∧l.length≤512∧l.all ptOk=true then some true else none
theorem plane_isSet.calls (A0:Option Addr) (c0:Nat) (l0:List S159) (r:Bool) (w:World) (hr0:Kd.C k159 w A0 l0.length l0) (hc0:l0.length≤c0) (h:plane_isSet.f l0=some r) :
  Calls Tryz.prog 78 #[.slice A0 l0.length c0] w fun e w'=>e=.returned (.bool r)∧Below w.heap.size w w':=by
 unfold plane_isSet.f at h
 by_cases hc:1≤l0.length∧l0.length≤512∧l0.all ptOk=true
 ·rw [if_pos hc] at h
  cases h
  exact isSet_walk A0 c0 l0 w hc.1 hc.2.1 hr0 (fun x hx=>List.all_eq_true.1 hc.2.2 x hx)
 ·rw [if_neg hc] at h;cases h
theorem eqA159 (d:Nat) (w:World) (x0 y0:Int) (x1 y1:Int) :
  (Op.equalIn (d+2) 159 (.agg #[.int .i64 x0,.int .i64 x1]) (.agg #[.int .i64 y0,.int .i64 y1])).run Tryz.prog w=.ok (x0 == y0 && (x1 == y1)) w:=by
 refine eqA_of Tryz.underlying159 (by kernel_rfl) ?_
 refine eqf_cons (by rfl) (by go_simp;rfl) (by go_simp;rfl) (by go_simp) ?_
 exact eqf_last (by rfl) (by go_simp;rfl) (by go_simp;rfl) (by go_simp)
attribute [local go_sem high] eqA159
mutual
def plane_Simple.j0:Nat→List (S159)→Int→Bool→Option (Bool)
 | 0,_,_,_=>none
 | k+1,x0,x3,x16=>if x16=true then (some false) else (plane_Simple.l0 k x0 x3 x3 0)
def plane_Simple.l0:Nat→List (S159)→Int→Int→Int→Option (Bool)
 | 0,_,_,_,_=>none
 | k+1,x0,x3,x17,x18=>if x18<x17 then ((plane_edge.f x0 x18).bind fun bt336=>(if x3=0 then (none) else ((plane_edge.f x0 (Int.tmod (wrap64 (x18+1)) x3)).bind fun bt340=>(if (bt336.1 == bt336.2.2.1 && (bt336.2.1 == bt336.2.2.2))=true then (plane_Simple.j2 k x0 x3 x18 x17 x18 true bt336.1 bt336.2.1 bt336.2.2.1 bt336.2.2.2) else ((plane_segment_has.f bt340.1 bt340.2.1 bt340.2.2.1 bt340.2.2.2 bt336.1 bt336.2.1).bind fun t346=>(if t346=true then (plane_Simple.j2 k x0 x3 x18 x17 x18 true bt336.1 bt336.2.1 bt336.2.2.1 bt336.2.2.2) else ((plane_segment_has.f bt336.1 bt336.2.1 bt336.2.2.1 bt336.2.2.2 bt340.2.2.1 bt340.2.2.2).bind fun t347=>(plane_Simple.j2 k x0 x3 x18 x17 x18 t347 bt336.1 bt336.2.1 bt336.2.2.1 bt336.2.2.2)))))))) else (some true)
def plane_Simple.j2:Nat→List (S159)→Int→Int→Int→Int→Bool→Int→Int→Int→Int→Option (Bool)
 | 0,_,_,_,_,_,_,_,_,_,_=>none
 | k+1,x0,x3,x4,x17,x18,x46,x345000,x345001,x345002,x345003=>if x46=true then (some false) else (plane_Simple.l1 k x0 x3 x4 (wrap64 (x4+2)) x17 x18 x345000 x345001 x345002 x345003)
def plane_Simple.l1:Nat→List (S159)→Int→Int→Int→Int→Int→Int→Int→Int→Int→Option (Bool)
 | 0,_,_,_,_,_,_,_,_,_,_=>none
 | k+1,x0,x3,x4,x7,x17,x18,x345000,x345001,x345002,x345003=>if x7<x3 then (if x3=0 then (none) else (if (Int.tmod (wrap64 (x7+1)) x3)=x4 then (plane_Simple.l1 k x0 x3 x4 (wrap64 (x7+1)) x17 x18 x345000 x345001 x345002 x345003) else ((plane_edge.f x0 x7).bind fun bt348=>((plane_segment_meets.f k x345000 x345001 x345002 x345003 bt348.1 bt348.2.1 bt348.2.2.1 bt348.2.2.2).bind fun t352=>(if t352=true then (some false) else (plane_Simple.l1 k x0 x3 x4 (wrap64 (x7+1)) x17 x18 x345000 x345001 x345002 x345003)))))) else (plane_Simple.l0 k x0 x3 x17 (wrap64 (x18+1)))
end
def plane_Simple.f (k:Nat) (l0:List (S159)):Option (Bool):=if (l0.length:Int)<3 then (plane_Simple.j0 k l0 (l0.length:Int) true) else ((plane_isSet.f l0).bind fun t335=>(plane_Simple.j0 k l0 (l0.length:Int) (!t335)))
theorem plane_Simple.mono_l:∀ k,(∀ y0 y1 y2,LeO (plane_Simple.j0 k y0 y1 y2) (plane_Simple.j0 (k+1) y0 y1 y2))∧(∀ y0 y1 y2 y3,LeO (plane_Simple.l0 k y0 y1 y2 y3) (plane_Simple.l0 (k+1) y0 y1 y2 y3))∧(∀ y0 y1 y2 y3 y4 y5 y6 y7 y8 y9,LeO (plane_Simple.j2 k y0 y1 y2 y3 y4 y5 y6 y7 y8 y9) (plane_Simple.j2 (k+1) y0 y1 y2 y3 y4 y5 y6 y7 y8 y9))∧(∀ y0 y1 y2 y3 y4 y5 y6 y7 y8 y9,LeO (plane_Simple.l1 k y0 y1 y2 y3 y4 y5 y6 y7 y8 y9) (plane_Simple.l1 (k+1) y0 y1 y2 y3 y4 y5 y6 y7 y8 y9))
 | 0=>⟨fun _ _ _ r h=>by simp [plane_Simple.j0] at h,fun _ _ _ _ r h=>by simp [plane_Simple.l0] at h,fun _ _ _ _ _ _ _ _ _ _ r h=>by simp [plane_Simple.j2] at h,fun _ _ _ _ _ _ _ _ _ _ r h=>by simp [plane_Simple.l1] at h⟩
 | k+1=>by
  obtain ⟨ih0,ih1,ih2,ih3⟩:=plane_Simple.mono_l k
  refine ⟨?_,?_,?_,?_⟩
  ·intro y0 y1 y2
   unfold plane_Simple.j0
   repeat' first
   | (with_reducible exact ih0 _ _ _)
   | (with_reducible exact ih1 _ _ _ _)
   | (with_reducible exact ih2 _ _ _ _ _ _ _ _ _ _)
   | (with_reducible exact ih3 _ _ _ _ _ _ _ _ _ _)
   | (with_reducible exact plane_segment_meets.mono _ _ _ _ _ _ _ _ _)
   | (with_reducible exact LeO.refl _)
   | (with_reducible exact LeO.none _)
   | (with_reducible refine LeO.ite ?_ ?_)
   | (with_reducible refine LeO.bind ?_ (fun _=>?_))
   | exact ih0 _ _ _
   | exact ih1 _ _ _ _
   | exact ih2 _ _ _ _ _ _ _ _ _ _
   | exact ih3 _ _ _ _ _ _ _ _ _ _
   | exact plane_segment_meets.mono _ _ _ _ _ _ _ _ _
   | exact LeO.none _
   | refine LeO.ite ?_ ?_
   | refine LeO.bind ?_ (fun _=>?_)
  ·intro y0 y1 y2 y3
   unfold plane_Simple.l0
   repeat' first
   | (with_reducible exact ih0 _ _ _)
   | (with_reducible exact ih1 _ _ _ _)
   | (with_reducible exact ih2 _ _ _ _ _ _ _ _ _ _)
   | (with_reducible exact ih3 _ _ _ _ _ _ _ _ _ _)
   | (with_reducible exact plane_segment_meets.mono _ _ _ _ _ _ _ _ _)
   | (with_reducible exact LeO.refl _)
   | (with_reducible exact LeO.none _)
   | (with_reducible refine LeO.ite ?_ ?_)
   | (with_reducible refine LeO.bind ?_ (fun _=>?_))
   | exact ih0 _ _ _
   | exact ih1 _ _ _ _
   | exact ih2 _ _ _ _ _ _ _ _ _ _
   | exact ih3 _ _ _ _ _ _ _ _ _ _
   | exact plane_segment_meets.mono _ _ _ _ _ _ _ _ _
   | exact LeO.none _
   | refine LeO.ite ?_ ?_
   | refine LeO.bind ?_ (fun _=>?_)
  ·intro y0 y1 y2 y3 y4 y5 y6 y7 y8 y9
   unfold plane_Simple.j2
   repeat' first
   | (with_reducible exact ih0 _ _ _)
   | (with_reducible exact ih1 _ _ _ _)
   | (with_reducible exact ih2 _ _ _ _ _ _ _ _ _ _)
   | (with_reducible exact ih3 _ _ _ _ _ _ _ _ _ _)
   | (with_reducible exact plane_segment_meets.mono _ _ _ _ _ _ _ _ _)
   | (with_reducible exact LeO.refl _)
   | (with_reducible exact LeO.none _)
   | (with_reducible refine LeO.ite ?_ ?_)
   | (with_reducible refine LeO.bind ?_ (fun _=>?_))
   | exact ih0 _ _ _
   | exact ih1 _ _ _ _
   | exact ih2 _ _ _ _ _ _ _ _ _ _
   | exact ih3 _ _ _ _ _ _ _ _ _ _
   | exact plane_segment_meets.mono _ _ _ _ _ _ _ _ _
   | exact LeO.none _
   | refine LeO.ite ?_ ?_
   | refine LeO.bind ?_ (fun _=>?_)
  ·intro y0 y1 y2 y3 y4 y5 y6 y7 y8 y9
   unfold plane_Simple.l1
   repeat' first
   | (with_reducible exact ih0 _ _ _)
   | (with_reducible exact ih1 _ _ _ _)
   | (with_reducible exact ih2 _ _ _ _ _ _ _ _ _ _)
   | (with_reducible exact ih3 _ _ _ _ _ _ _ _ _ _)
   | (with_reducible exact plane_segment_meets.mono _ _ _ _ _ _ _ _ _)
   | (with_reducible exact LeO.refl _)
   | (with_reducible exact LeO.none _)
   | (with_reducible refine LeO.ite ?_ ?_)
   | (with_reducible refine LeO.bind ?_ (fun _=>?_))
   | exact ih0 _ _ _
   | exact ih1 _ _ _ _
   | exact ih2 _ _ _ _ _ _ _ _ _ _
   | exact ih3 _ _ _ _ _ _ _ _ _ _
   | exact plane_segment_meets.mono _ _ _ _ _ _ _ _ _
   | exact LeO.none _
   | refine LeO.ite ?_ ?_
   | refine LeO.bind ?_ (fun _=>?_)
theorem plane_Simple.mono:∀ a0 k,LeO (plane_Simple.f k a0) (plane_Simple.f (k+1) a0):=by
 intro a0 k
 obtain ⟨ih0,ih1,ih2,ih3⟩:=plane_Simple.mono_l k
 unfold plane_Simple.f
 repeat' first
   | (with_reducible exact ih0 _ _ _)
   | (with_reducible exact ih1 _ _ _ _)
   | (with_reducible exact ih2 _ _ _ _ _ _ _ _ _ _)
   | (with_reducible exact ih3 _ _ _ _ _ _ _ _ _ _)
   | (with_reducible exact plane_segment_meets.mono _ _ _ _ _ _ _ _ _)
   | (with_reducible exact LeO.refl _)
   | (with_reducible exact LeO.none _)
   | (with_reducible refine LeO.ite ?_ ?_)
   | (with_reducible refine LeO.bind ?_ (fun _=>?_))
   | exact ih0 _ _ _
   | exact ih1 _ _ _ _
   | exact ih2 _ _ _ _ _ _ _ _ _ _
   | exact ih3 _ _ _ _ _ _ _ _ _ _
   | exact plane_segment_meets.mono _ _ _ _ _ _ _ _ _
   | exact LeO.none _
   | refine LeO.ite ?_ ?_
   | refine LeO.bind ?_ (fun _=>?_)
def plane_Simple.T7:Bool × List (List Nat × List Nat):=(true,[([],[]),([],[]),([0,1],[0,1]),([],[]),([],[]),([4],[4]),([],[]),([5,6],[5,6]),([3,7,2],[3,7]),([],[]),([],[]),([9,2,8,0,1,2,9,10],[2,9]),([10,8,11,0,1,2,3,4,5,6,7,8,9,10,11],[8,10])])
def plane_Simple.B7:List Nat:=[0,0,3,0,0,16,0,112,255,0,0,2047,4095]
theorem plane_Simple.tab7:rtab .any (opsOf Tryz.f46 7)=plane_Simple.T7:=by kernel_rfl
theorem plane_Simple.bits7:waitsOk plane_Simple.T7.2 plane_Simple.B7=true:=by kernel_rfl
def plane_Simple.T13:Bool × List (List Nat × List Nat):=(true,[([],[]),([0],[0]),([],[]),([1,2],[1,2]),([],[]),([3,4],[3,4]),([5],[5]),([6],[6]),([6],[6]),([6],[6]),([8,9,6,6],[6,8,9]),([7,10,10,6],[6,7,10]),([6,11],[6,11])])
def plane_Simple.B13:List Nat:=[0,1,0,7,0,31,63,127,127,127,895,2047,4095]
theorem plane_Simple.tab13:rtab .any (opsOf Tryz.f46 13)=plane_Simple.T13:=by kernel_rfl
theorem plane_Simple.bits13:waitsOk plane_Simple.T13.2 plane_Simple.B13=true:=by kernel_rfl
set_option maxHeartbeats 8000000 in
set_option maxRecDepth 100000 in
theorem plane_Simple.calls (k:Nat) (A0:Option Addr) (c0:Nat) (l0:List (S159)) (r:Bool) (w:World) (hr0:Kd.C k159 w A0 l0.length l0) (hc0:l0.length≤c0) (h:plane_Simple.f k l0=some r) :
  Calls Tryz.prog 46 #[.slice A0 l0.length c0] w fun e w'=>e=.returned (.bool r)∧Below w.heap.size w w':=by
 have hu178:=Tryz.underlying178
 have hu159:=Tryz.underlying159
 have HR0:=Aside0.mk hr0
 have HC0:=Aside0.mk hc0
 clear hr0 hc0
 have HB:=Aside0.mk (Below.refl w.heap.size w)
 have H:(if (l0.length:Int)<3 then (plane_Simple.j0 k l0 (l0.length:Int) true) else ((plane_isSet.f l0).bind fun t335=>(plane_Simple.j0 k l0 (l0.length:Int) (!t335))))=some r:=h
 clear h
 have HC2:=Aside0.mk H
 clear H
 go_enter Tryz.func46,Tryz.ntmps46
 go_upto_region 2 with (fail)
 go_cut [16] (fun v16 wc=>∃ (kq:Nat) (x16_1:Bool),v16=.bool x16_1∧Aside0 (plane_Simple.j0 kq l0 (l0.length:Int) x16_1=some r)∧Aside0 (kq≤k)∧Aside0 (Below w.heap.size w wc))
 case first =>
  have H:=HC2.out
  clear HC2
  by_cases c3:(l0.length:Int)<3
  ·rw [if_pos c3] at H
   have c3b0:decide ((l0.length:Int)<3)=true:=decide_eq_true c3
   have c3b1:decide (l0.length<3)=true:=decide_eq_true (by omega)
   clear c3
   (first|rw [c3b0]|(simp only [i64_w,i32_w];rw [c3b0])|skip)
   have H':=Aside0.mk H
   clear H
   go_wp2
   go_meet
   case rel=>exact ⟨_,(true),(by first|rfl|(simp;done)|(simp [*];done)),H',⟨by first|omega|exact Nat.le_refl _⟩,⟨by repeat (first|(with_reducible first|exact HB.out|apply below_alloc|apply pw_below_drewN|apply below_drew1)|exact HB.out)⟩⟩
  ·rw [if_neg c3] at H
   have c3b0:decide ((l0.length:Int)<3)=false:=decide_eq_false c3
   have c3b1:decide (l0.length<3)=false:=decide_eq_false (by omega)
   clear c3
   (first|rw [c3b0]|(simp only [i64_w,i32_w];rw [c3b0])|skip)
   replace H:=Option.bind_eq_some_iff.mp H
   obtain ⟨t335,A40,H⟩:=H
   replace H:(plane_Simple.j0 k l0 (l0.length:Int) (!t335))=some r:=H
   have A4:=Aside0.mk A40;(try simp only [Int.toNat_natCast] at A4)
   clear A40
   have H':=Aside0.mk H
   clear H
   go_wp2_with (first|(go_at_call 78;(with_reducible refine (plane_isSet.calls _ _ l0 t335 _ ?side1 ?side2 A4.out).mono ?_);(case side1=>repeat (first|exact (Kd.C_below HR0.out HB.out)|(with_reducible refine Kd.C_alloc ?_ _)|(with_reducible refine Kd.C_drewN ?_ _)|(with_reducible refine Kd.C_drew ?_)));(case side2=>exact HC0.out);rintro e w5 ⟨rfl,hb⟩;have n0_:=Aside0.mk (below_step (by repeat (first|(with_reducible first|exact HB.out|apply below_alloc|apply pw_below_drewN|apply below_drew1)|exact HB.out)) hb);clear HB;have HB:=n0_;clear n0_;(try clear hb);(try clear hb2);(try clear hk);(try clear hi)))
   go_meet
   case rel=>exact ⟨_,(!t335),(by first|rfl|(simp;done)|(simp [*];done)),H',⟨by first|omega|exact Nat.le_refl _⟩,⟨by repeat (first|(with_reducible first|exact HB.out|apply below_alloc|apply pw_below_drewN|apply below_drew1)|exact HB.out)⟩⟩
 case rest =>
  clear HC2
  try clear p2
  try clear c3
  try clear c3b0
  try clear c3b1
  try clear c4
  obtain ⟨kq,x16_1,rfl,HA,HJ1,HB⟩:=hcut
  cases kq with
  | zero=>exact absurd HA.out (by simp [plane_Simple.j0])
  | succ kj1 =>
   have H:=HA.out
   clear HA
   simp only [plane_Simple.j0] at H
   by_cases c6:x16_1=true
   ·subst c6
    have H1:(some false)=some r:=by rw [if_pos rfl] at H;exact H
    clear H
    have H:=H1
    clear H1
    obtain rfl:=Option.some.inj H
    go_wp2
    go_ret
    exact ⟨by first|rfl|(simp [errW_none,errW_some] <;> rfl)|(simp [*,errW_none,errW_some] <;> rfl),by repeat (first|(with_reducible first|exact HB.out|apply below_alloc|apply pw_below_drewN|apply below_drew1)|exact HB.out)⟩
   ·replace c6:=Bool.eq_false_iff.mpr c6
    subst c6
    have H1:(plane_Simple.l0 kj1 l0 (l0.length:Int) (l0.length:Int) 0)=some r:=by rw [if_neg (show ¬ (false=true) by decide)] at H;exact H
    clear H
    have H:=H1
    clear H1
    have H':=Aside0.mk H
    clear H
    go_wp2
    go_loopg [18] kj1 (fun kq v18 w'=>∃ (x18_2:Int),v18=.int .i64 x18_2∧Aside0 (plane_Simple.l0 kq l0 (l0.length:Int) (l0.length:Int) x18_2=some r)∧Aside0 (kq≤kj1)∧Aside0 (Below w.heap.size w w'))
    case atStart=>exact ⟨(0),(by first|rfl|(simp;done)|(simp [*];done)),H',⟨Nat.le_refl _⟩,⟨by repeat (first|(with_reducible first|exact HB.out|apply below_alloc|apply pw_below_drewN|apply below_drew1)|exact HB.out)⟩⟩
    case round =>
     clear H'
     try clear p2
     try clear c3
     try clear c3b0
     try clear c3b1
     try clear c4
     try clear c6
     try clear p2
     obtain ⟨x18_2,rfl,HA,HK2,HB⟩:=hrel
     cases gk with
     | zero=>exact absurd HA.out (by simp [plane_Simple.l0])
     | succ k2 =>
      have H:=HA.out
      clear HA
      simp only [plane_Simple.l0] at H
      by_cases c7:x18_2<(l0.length:Int)
      ·rw [if_pos c7] at H
       have c7b0:decide (x18_2<(l0.length:Int))=true:=decide_eq_true c7
       clear c7
       replace H:=Option.bind_eq_some_iff.mp H
       obtain ⟨⟨t336,t337,t338,t339⟩,A80,H⟩:=H
       replace H:(if (l0.length:Int)=0 then (none) else ((plane_edge.f l0 (Int.tmod (wrap64 (x18_2+1)) (l0.length:Int))).bind fun bt340=>(if (t336 == t338 && (t337 == t339))=true then (plane_Simple.j2 k2 l0 (l0.length:Int) x18_2 (l0.length:Int) x18_2 true t336 t337 t338 t339) else ((plane_segment_has.f bt340.1 bt340.2.1 bt340.2.2.1 bt340.2.2.2 t336 t337).bind fun t346=>(if t346=true then (plane_Simple.j2 k2 l0 (l0.length:Int) x18_2 (l0.length:Int) x18_2 true t336 t337 t338 t339) else ((plane_segment_has.f t336 t337 t338 t339 bt340.2.2.1 bt340.2.2.2).bind fun t347=>(plane_Simple.j2 k2 l0 (l0.length:Int) x18_2 (l0.length:Int) x18_2 t347 t336 t337 t338 t339)))))))=some r:=H
       have A8:=Aside0.mk A80;(try simp only [Int.toNat_natCast] at A8)
       clear A80
       by_cases c9:(l0.length:Int)=0
       ·rw [if_pos c9] at H
        exact absurd H (by simp)
       ·rw [if_neg c9] at H
        have c9b0:((l0.length:Int) == 0)=false:=beq_eq_false_iff_ne.mpr c9
        have c9b1:((l0.length:Int) != 0)=true:=bne_iff_ne.mpr c9
        have c9b2:¬ (l0=[]):=fun h_=>c9 (by rw [h_];rfl)
        replace H:=Option.bind_eq_some_iff.mp H
        obtain ⟨⟨t340,t341,t342,t343⟩,A100,H⟩:=H
        replace H:(if (t336 == t338 && (t337 == t339))=true then (plane_Simple.j2 k2 l0 (l0.length:Int) x18_2 (l0.length:Int) x18_2 true t336 t337 t338 t339) else ((plane_segment_has.f t340 t341 t342 t343 t336 t337).bind fun t346=>(if t346=true then (plane_Simple.j2 k2 l0 (l0.length:Int) x18_2 (l0.length:Int) x18_2 true t336 t337 t338 t339) else ((plane_segment_has.f t336 t337 t338 t339 t342 t343).bind fun t347=>(plane_Simple.j2 k2 l0 (l0.length:Int) x18_2 (l0.length:Int) x18_2 t347 t336 t337 t338 t339)))))=some r:=H
        have A10:=Aside0.mk A100;(try simp only [Int.toNat_natCast] at A10)
        clear A100
        have HC11:=Aside0.mk H
        clear H
        try go_wp2
        have n0_:=Aside0.mk (below_drew1 HB.out)
        clear HB
        have HB:=n0_
        clear n0_
        refine start_ (n:=13) (S:=fun w'=>True) (ds:=[]) #[false,false,false,false,false,false,false,false,false,false,false,false,false] (by kernel_rfl) rfl rfl trivial (fun hHeld=>?_);refine with_tabW plane_Simple.tab7 plane_Simple.bits7 (fun HT_ HW_=>?_)
        generalize wr.drew=w12 at HB hHeld ⊢
        refine pure_ (i:=0) (N:=some 21) (v:=?_) (a':=?_) #[true,false,false,false,false,false,false,false,false,false,false,false,false] rfl rfl (any_of HT_.out (by kernel_rfl)) (fun _ _ _ h=>h) (Or.inl ⟨by rfl,?_⟩) ?_ ?_
        rotate_left
        ·intro w'
         go_simp
         with_reducible rfl
        rotate_left
        ·simp only [Act.put,sp__,i64_w,i32_w]
         rfl
        refine pure_ (i:=1) (N:=some 22) (v:=?_) (a':=?_) #[true,true,false,false,false,false,false,false,false,false,false,false,false] rfl rfl (any_of HT_.out (by kernel_rfl)) (fun _ _ _ h=>h) (Or.inl ⟨by rfl,?_⟩) ?_ ?_
        rotate_left
        ·intro w'
         go_simp
         with_reducible rfl
        rotate_left
        ·simp only [Act.put,sp__,i64_w,i32_w]
         rfl
        refine pure_ (i:=3) (N:=some 24) (v:=?_) (a':=?_) #[true,true,false,true,false,false,false,false,false,false,false,false,false] rfl rfl (any_of HT_.out (by kernel_rfl)) (fun _ _ _ h=>h) (Or.inl ⟨by rfl,?_⟩) ?_ ?_
        rotate_left
        ·intro w'
         go_simp
         with_reducible rfl
        rotate_left
        ·simp only [Act.put,sp__,i64_w,i32_w]
         rfl
        refine pure_ (i:=4) (N:=some 25) (v:=?_) (a':=?_) #[true,true,false,true,true,false,false,false,false,false,false,false,false] rfl rfl (any_of HT_.out (by kernel_rfl)) (fun _ _ _ h=>h) (Or.inl ⟨by rfl,?_⟩) ?_ ?_
        rotate_left
        ·intro w'
         go_simp
         with_reducible rfl
        rotate_left
        ·simp only [Act.put,sp__,i64_w,i32_w]
         rfl
        refine pure_ (i:=5) (N:=some 26) (v:=?_) (a':=?_) #[true,true,false,true,true,true,false,false,false,false,false,false,false] rfl rfl (any_of HT_.out (by kernel_rfl)) (fun _ _ _ h=>h) (Or.inl ⟨by rfl,?_⟩) ?_ ?_
        rotate_left
        ·intro w'
         go_simp
         with_reducible rfl
        rotate_left
        ·simp only [Act.put,sp__,i64_w,i32_w]
         rfl
        refine pure_ (i:=6) (N:=some 27) (v:=?_) (a':=?_) #[true,true,false,true,true,true,true,false,false,false,false,false,false] rfl rfl (any_of HT_.out (by kernel_rfl)) (fun _ _ _ h=>h) (Or.inl ⟨by rfl,?_⟩) ?_ ?_
        rotate_left
        ·intro w'
         go_simp
         with_reducible rfl
        rotate_left
        ·simp only [Act.put,sp__,i64_w,i32_w]
         rfl
        refine pure_ (i:=7) (N:=some 28) (v:=?_) (a':=?_) #[true,true,false,true,true,true,true,true,false,false,false,false,false] rfl rfl (any_of HT_.out (by kernel_rfl)) (fun _ _ _ h=>h) (Or.inl ⟨by rfl,?_⟩) ?_ ?_
        rotate_left
        ·intro w'
         go_simp
         with_reducible rfl
        rotate_left
        ·simp only [Act.put,sp__,i64_w,i32_w]
         rfl
        refine join_ (σ:=Nat × Nat) 2 #[true,true,true,true,true,true,true,true,true,true,true,false,false] (fun s_=>[(23,.agg #[.int .i64 t336,.int .i64 t337,.int .i64 t338,.int .i64 t339]),(29,.agg #[.int .i64 t340,.int .i64 t341,.int .i64 t342,.int .i64 t343]),(5,.pointer (some ⟨s_.1,0,none⟩)),(6,.pointer (some ⟨s_.2,0,none⟩))]) (fun s_ w'=>(w'.heap[s_.1]?=some (.cells #[.int .i64 0,.int .i64 0,.int .i64 0,.int .i64 0] 178 (0,0)))∧(w'.heap[s_.2]?=some (.cells #[.int .i64 0,.int .i64 0,.int .i64 0,.int .i64 0] 178 (0,0)))∧(w.heap.size≤s_.1)∧(w.heap.size≤s_.1)∧(s_.2≠s_.1)∧(s_.1≠s_.2)∧(w.heap.size≤s_.2)∧(w.heap.size≤s_.2)∧(Below w.heap.size w w')) ?_ ?_
        rotate_left
        ·intro hJ2_8_9_10
         refine join_ (σ:=Nat) 3 #[true,true,true,true,true,true,true,true,true,true,false,false,false] (fun s_=>[(23,.agg #[.int .i64 t336,.int .i64 t337,.int .i64 t338,.int .i64 t339]),(29,.agg #[.int .i64 t340,.int .i64 t341,.int .i64 t342,.int .i64 t343]),(5,.pointer (some ⟨s_,0,none⟩))]) (fun s_ w'=>(w'.heap[s_]?=some (.cells #[.int .i64 0,.int .i64 0,.int .i64 0,.int .i64 0] 178 (0,0)))∧(w.heap.size≤s_)∧(w.heap.size≤s_)∧(Below w.heap.size w w')) ?_ ?_
         rotate_left
         ·intro hJ2_8_9
          refine join_ (σ:=Nat) 3 #[true,true,true,true,true,true,true,true,true,false,true,false,false] (fun s_=>[(23,.agg #[.int .i64 t336,.int .i64 t337,.int .i64 t338,.int .i64 t339]),(29,.agg #[.int .i64 t340,.int .i64 t341,.int .i64 t342,.int .i64 t343]),(6,.pointer (some ⟨s_,0,none⟩))]) (fun s_ w'=>(w'.heap[s_]?=some (.cells #[.int .i64 0,.int .i64 0,.int .i64 0,.int .i64 0] 178 (0,0)))∧(w.heap.size≤s_)∧(w.heap.size≤s_)∧(Below w.heap.size w w')) ?_ ?_
          rotate_left
          ·intro hJ2_8_10
           refine join_ (σ:=Nat × Nat) 3 #[true,true,true,true,true,true,true,true,false,true,true,false,false] (fun s_=>[(23,.agg #[.int .i64 t336,.int .i64 t337,.int .i64 t338,.int .i64 t339]),(5,.pointer (some ⟨s_.1,0,none⟩)),(6,.pointer (some ⟨s_.2,0,none⟩))]) (fun s_ w'=>(w'.heap[s_.1]?=some (.cells #[.int .i64 0,.int .i64 0,.int .i64 0,.int .i64 0] 178 (0,0)))∧(w'.heap[s_.2]?=some (.cells #[.int .i64 0,.int .i64 0,.int .i64 0,.int .i64 0] 178 (0,0)))∧(w.heap.size≤s_.1)∧(w.heap.size≤s_.1)∧(s_.2≠s_.1)∧(s_.1≠s_.2)∧(w.heap.size≤s_.2)∧(w.heap.size≤s_.2)∧(Below w.heap.size w w')) ?_ ?_
           rotate_left
           ·intro hJ2_9_10
            refine join_ (σ:=Unit) 4 #[true,true,true,true,true,true,true,true,true,false,false,false,false] (fun s_=>[(23,.agg #[.int .i64 t336,.int .i64 t337,.int .i64 t338,.int .i64 t339]),(29,.agg #[.int .i64 t340,.int .i64 t341,.int .i64 t342,.int .i64 t343])]) (fun s_ w'=>(Below w.heap.size w w')) ?_ ?_
            rotate_left
            ·intro hJ2_8
             refine join_ (σ:=Nat) 4 #[true,true,true,true,true,true,true,true,false,true,false,false,false] (fun s_=>[(23,.agg #[.int .i64 t336,.int .i64 t337,.int .i64 t338,.int .i64 t339]),(5,.pointer (some ⟨s_,0,none⟩))]) (fun s_ w'=>(w'.heap[s_]?=some (.cells #[.int .i64 0,.int .i64 0,.int .i64 0,.int .i64 0] 178 (0,0)))∧(w.heap.size≤s_)∧(w.heap.size≤s_)∧(Below w.heap.size w w')) ?_ ?_
             rotate_left
             ·intro hJ2_9
              refine join_ (σ:=Nat) 4 #[true,true,true,true,true,true,true,true,false,false,true,false,false] (fun s_=>[(23,.agg #[.int .i64 t336,.int .i64 t337,.int .i64 t338,.int .i64 t339]),(6,.pointer (some ⟨s_,0,none⟩))]) (fun s_ w'=>(w'.heap[s_]?=some (.cells #[.int .i64 0,.int .i64 0,.int .i64 0,.int .i64 0] 178 (0,0)))∧(w.heap.size≤s_)∧(w.heap.size≤s_)∧(Below w.heap.size w w')) ?_ ?_
              rotate_left
              ·intro hJ2_10
               refine join_ (σ:=Nat × Nat) 4 #[true,true,false,true,true,true,true,true,false,true,true,false,false] (fun s_=>[(5,.pointer (some ⟨s_.1,0,none⟩)),(6,.pointer (some ⟨s_.2,0,none⟩))]) (fun s_ w'=>(w'.heap[s_.1]?=some (.cells #[.int .i64 0,.int .i64 0,.int .i64 0,.int .i64 0] 178 (0,0)))∧(w'.heap[s_.2]?=some (.cells #[.int .i64 0,.int .i64 0,.int .i64 0,.int .i64 0] 178 (0,0)))∧(w.heap.size≤s_.1)∧(w.heap.size≤s_.1)∧(s_.2≠s_.1)∧(s_.1≠s_.2)∧(w.heap.size≤s_.2)∧(w.heap.size≤s_.2)∧(Below w.heap.size w w')) ?_ ?_
               rotate_left
               ·intro hJ9_10
                refine join_ (σ:=Unit) 5 #[true,true,true,true,true,true,true,true,false,false,false,false,false] (fun s_=>[(23,.agg #[.int .i64 t336,.int .i64 t337,.int .i64 t338,.int .i64 t339])]) (fun s_ w'=>(Below w.heap.size w w')) ?_ ?_
                rotate_left
                ·intro hJ2
                 refine join_ (σ:=Nat) 5 #[true,true,false,true,true,true,true,true,false,true,false,false,false] (fun s_=>[(5,.pointer (some ⟨s_,0,none⟩))]) (fun s_ w'=>(w'.heap[s_]?=some (.cells #[.int .i64 0,.int .i64 0,.int .i64 0,.int .i64 0] 178 (0,0)))∧(w.heap.size≤s_)∧(w.heap.size≤s_)∧(Below w.heap.size w w')) ?_ ?_
                 rotate_left
                 ·intro hJ9
                  refine join_ (σ:=Nat) 5 #[true,true,false,true,true,true,true,true,false,false,true,false,false] (fun s_=>[(6,.pointer (some ⟨s_,0,none⟩))]) (fun s_ w'=>(w'.heap[s_]?=some (.cells #[.int .i64 0,.int .i64 0,.int .i64 0,.int .i64 0] 178 (0,0)))∧(w.heap.size≤s_)∧(w.heap.size≤s_)∧(Below w.heap.size w w')) ?_ ?_
                  rotate_left
                  ·intro hJ10
                   refine three_ (i:=2) (j:=9) (k:=10) (Ni:=some 23) (Nj:=some 5) (Nk:=some 6) #[true,true,true,true,true,true,true,true,false,false,false,false,false] #[true,true,false,true,true,true,true,true,false,true,false,false,false] #[true,true,false,true,true,true,true,true,false,false,true,false,false] rfl rfl rfl rfl rfl rfl (three_of HT_.out (by kernel_rfl)) (by decide) (by decide) (by decide) (fun K hK=>?_) (fun K hK=>?_) (fun K hK=>?_)
                   ·skip
                    refine goes_ Tryz.func79 (by kernel_rfl) rfl #[.slice A0 l0.length c0,.int .i64 x18_2] (by rfl) rfl rfl (by (try simp only [List.map_toArray,List.map_cons,List.map_nil]);first|done|rfl|(simp only [List.length_drop,List.length_take];rfl)) ?_
                    with_reducible refine (plane_edge.calls _ _ l0 x18_2 t336 t337 t338 t339 _ ?side1 ?side2 A8.out).mono ?_
                    (case side1=>repeat (first|exact (Kd.C_below HR0.out HB.out)|(with_reducible refine Kd.C_alloc ?_ _)|(with_reducible refine Kd.C_drewN ?_ _)|(with_reducible refine Kd.C_drew ?_)))
                    (case side2=>exact HC0.out)
                    rintro e w13 ⟨rfl,hb⟩
                    refine ⟨_,rfl,?_⟩
                    have n0_:=Aside0.mk (below_step (by repeat (first|(with_reducible first|exact HB.out|apply below_alloc|apply pw_below_drewN|apply below_drew1)|exact HB.out)) hb)
                    clear HB
                    have HB:=n0_
                    clear n0_
                    (try clear hb)
                    (try clear hb2)
                    (try clear hk)
                    (try clear hi)
                    refine hK.out _ _ trivial (fun hHeld=>?_)
                    clear hK K
                    refine norm_ (a':=?_) ?_ ?_
                    rotate_left
                    ·show Act.put _ (some 23) _=_
                     simp only [Act.put,sp__,i64_w,i32_w]
                     rfl
                    exact norm_ (by first|(simp only [putAll,Act.put,List.setIfInBounds_toArray,List.set_cons_zero,List.set_cons_succ];done)|(simp only [putAll,Act.put,List.setIfInBounds_toArray,List.set_cons_zero,List.set_cons_succ];rfl)) (hJ2 () _ (by repeat (first|(with_reducible first|exact HB.out|apply below_alloc|apply pw_below_drewN|apply below_drew1)|exact HB.out)))
                   ·skip
                    refine box_step ?hg (N:=5) ?hd (cs:=#[.int .i64 0,.int .i64 0,.int .i64 0,.int .i64 0]) (t:=178) ?hr ?_;(case hd=>rfl);(case hg=>rfl);(case hr=>first|(go_simp;done)|(go_simp;rfl))
                    intro gb344 hg w13 hbox hb
                    have n0_:=Aside0.mk (below_step (by repeat (first|(with_reducible first|exact HB.out|apply below_alloc|apply pw_below_drewN|apply below_drew1)|exact HB.out)) hb)
                    have n1_:=Aside0.mk (hbox)
                    have n2_:=Aside0.mk ((by rw [hg];exact (below_size (by repeat (first|(with_reducible first|exact HB.out|apply below_alloc|apply pw_below_drewN|apply below_drew1)|exact HB.out))):w.heap.size≤gb344))
                    have n3_:=Aside0.mk ((by rw [hg];exact (below_size (by repeat (first|(with_reducible first|exact HB.out|apply below_alloc|apply pw_below_drewN|apply below_drew1)|exact HB.out))):w.heap.size≤gb344))
                    clear HB
                    have HB:=n0_
                    have BK344:=n1_
                    have GW344:=n2_
                    have GE344:=n3_
                    clear n0_ n1_ n2_ n3_
                    clear hb hbox hg
                    refine hK.out _ _ trivial (fun hHeld=>?_)
                    clear hK K
                    refine norm_ (a':=?_) ?_ ?_
                    rotate_left
                    ·show Act.put _ (some 5) _=_
                     simp only [Act.put,sp__,i64_w,i32_w]
                     rfl
                    exact norm_ (by first|(simp only [putAll,Act.put,List.setIfInBounds_toArray,List.set_cons_zero,List.set_cons_succ];done)|(simp only [putAll,Act.put,List.setIfInBounds_toArray,List.set_cons_zero,List.set_cons_succ];rfl)) (hJ9 (gb344) _ ⟨(by (with_reducible repeat (first|refine blk_drewN ?_ _|refine blk_drew ?_|refine blk_alloc ?_ _));exact BK344.out),GW344.out,GE344.out,(by repeat (first|(with_reducible first|exact HB.out|apply below_alloc|apply pw_below_drewN|apply below_drew1|refine below_set ?_ GE344.out)|exact HB.out))⟩)
                   ·skip
                    refine box_step ?hg (N:=6) ?hd (cs:=#[.int .i64 0,.int .i64 0,.int .i64 0,.int .i64 0]) (t:=178) ?hr ?_;(case hd=>rfl);(case hg=>rfl);(case hr=>first|(go_simp;done)|(go_simp;rfl))
                    intro gb345 hg w13 hbox hb
                    have n0_:=Aside0.mk (below_step (by repeat (first|(with_reducible first|exact HB.out|apply below_alloc|apply pw_below_drewN|apply below_drew1)|exact HB.out)) hb)
                    have n1_:=Aside0.mk (hbox)
                    have n2_:=Aside0.mk ((by rw [hg];exact (below_size (by repeat (first|(with_reducible first|exact HB.out|apply below_alloc|apply pw_below_drewN|apply below_drew1)|exact HB.out))):w.heap.size≤gb345))
                    have n3_:=Aside0.mk ((by rw [hg];exact (below_size (by repeat (first|(with_reducible first|exact HB.out|apply below_alloc|apply pw_below_drewN|apply below_drew1)|exact HB.out))):w.heap.size≤gb345))
                    clear HB
                    have HB:=n0_
                    have BK345:=n1_
                    have GW345:=n2_
                    have GE345:=n3_
                    clear n0_ n1_ n2_ n3_
                    clear hb hbox hg
                    refine hK.out _ _ trivial (fun hHeld=>?_)
                    clear hK K
                    refine norm_ (a':=?_) ?_ ?_
                    rotate_left
                    ·show Act.put _ (some 6) _=_
                     simp only [Act.put,sp__,i64_w,i32_w]
                     rfl
                    exact norm_ (by first|(simp only [putAll,Act.put,List.setIfInBounds_toArray,List.set_cons_zero,List.set_cons_succ];done)|(simp only [putAll,Act.put,List.setIfInBounds_toArray,List.set_cons_zero,List.set_cons_succ];rfl)) (hJ10 (gb345) _ ⟨(by (with_reducible repeat (first|refine blk_drewN ?_ _|refine blk_drew ?_|refine blk_alloc ?_ _));exact BK345.out),GW345.out,GE345.out,(by repeat (first|(with_reducible first|exact HB.out|apply below_alloc|apply pw_below_drewN|apply below_drew1|refine below_set ?_ GE345.out)|exact HB.out))⟩)
                  ·skip
                   rintro gb345 w14 ⟨h0_,h1_,h2_,h3_⟩
                   have n0_:Aside0 (w14.heap[gb345]?=some (.cells #[.int .i64 0,.int .i64 0,.int .i64 0,.int .i64 0] 178 (0,0))):=⟨h0_⟩
                   have n1_:Aside0 (w.heap.size≤gb345):=⟨h1_⟩
                   have n2_:Aside0 (w.heap.size≤gb345):=⟨h2_⟩
                   have n3_:Aside0 (Below w.heap.size w w14):=⟨h3_⟩
                   clear HB
                   clear h0_ h1_ h2_ h3_
                   have BK345:=n0_
                   have GW345:=n1_
                   have GE345:=n2_
                   have HB:=n3_
                   clear n0_ n1_ n2_ n3_
                   have hHeld:=trivial
                   refine norm_ (a':=?_) ?_ ?_
                   rotate_left
                   ·simp only [putAll,Act.put,List.setIfInBounds_toArray,List.set_cons_zero,List.set_cons_succ]
                    rfl
                   refine two_ (i:=2) (j:=9) (Ni:=some 23) (Nj:=some 5) #[true,true,true,true,true,true,true,true,false,false,true,false,false] #[true,true,false,true,true,true,true,true,false,true,true,false,false] rfl rfl rfl rfl (two_of HT_.out (by kernel_rfl)) (by decide) (by decide) (fun K hK=>?_) (fun K hK=>?_)
                   ·skip
                    refine goes_ Tryz.func79 (by kernel_rfl) rfl #[.slice A0 l0.length c0,.int .i64 x18_2] (by rfl) rfl rfl (by (try simp only [List.map_toArray,List.map_cons,List.map_nil]);first|done|rfl|(simp only [List.length_drop,List.length_take];rfl)) ?_
                    with_reducible refine (plane_edge.calls _ _ l0 x18_2 t336 t337 t338 t339 _ ?side1 ?side2 A8.out).mono ?_
                    (case side1=>repeat (first|exact (Kd.C_below HR0.out HB.out)|(with_reducible refine Kd.C_alloc ?_ _)|(with_reducible refine Kd.C_drewN ?_ _)|(with_reducible refine Kd.C_drew ?_)))
                    (case side2=>exact HC0.out)
                    rintro e w15 ⟨rfl,hb⟩
                    refine ⟨_,rfl,?_⟩
                    have n0_:=Aside0.mk (blk_below (g:=gb345) (o:=.cells #[.int .i64 0,.int .i64 0,.int .i64 0,.int .i64 0] 178 (0,0)) (by (with_reducible repeat (first|refine blk_drewN ?_ _|refine blk_drew ?_|refine blk_alloc ?_ _));exact BK345.out) hb)
                    have n1_:=Aside0.mk (below_step (by repeat (first|(with_reducible first|exact HB.out|apply below_alloc|apply pw_below_drewN|apply below_drew1|refine below_set ?_ GE345.out)|exact HB.out)) hb)
                    clear BK345
                    clear HB
                    have BK345:=n0_
                    have HB:=n1_
                    clear n0_ n1_
                    (try clear hb)
                    (try clear hb2)
                    (try clear hk)
                    (try clear hi)
                    refine hK.out _ _ trivial (fun hHeld=>?_)
                    clear hK K
                    refine norm_ (a':=?_) ?_ ?_
                    rotate_left
                    ·show Act.put _ (some 23) _=_
                     simp only [Act.put,sp__,i64_w,i32_w]
                     rfl
                    exact norm_ (by first|(simp only [putAll,Act.put,List.setIfInBounds_toArray,List.set_cons_zero,List.set_cons_succ];done)|(simp only [putAll,Act.put,List.setIfInBounds_toArray,List.set_cons_zero,List.set_cons_succ];rfl)) (hJ2_10 (gb345) _ ⟨(by (with_reducible repeat (first|refine blk_drewN ?_ _|refine blk_drew ?_|refine blk_alloc ?_ _));exact BK345.out),GW345.out,GE345.out,(by repeat (first|(with_reducible first|exact HB.out|apply below_alloc|apply pw_below_drewN|apply below_drew1|refine below_set ?_ GE345.out)|exact HB.out))⟩)
                   ·skip
                    refine box_step ?hg (N:=5) ?hd (cs:=#[.int .i64 0,.int .i64 0,.int .i64 0,.int .i64 0]) (t:=178) ?hr ?_;(case hd=>rfl);(case hg=>rfl);(case hr=>first|(go_simp;done)|(go_simp;rfl))
                    intro gb344 hg w15 hbox hb
                    have n0_:=Aside0.mk (blk_below (g:=gb345) (o:=.cells #[.int .i64 0,.int .i64 0,.int .i64 0,.int .i64 0] 178 (0,0)) (by (with_reducible repeat (first|refine blk_drewN ?_ _|refine blk_drew ?_|refine blk_alloc ?_ _));exact BK345.out) hb)
                    have n1_:=Aside0.mk (below_step (by repeat (first|(with_reducible first|exact HB.out|apply below_alloc|apply pw_below_drewN|apply below_drew1|refine below_set ?_ GE345.out)|exact HB.out)) hb)
                    have n2_:=Aside0.mk (hbox)
                    have n3_:=Aside0.mk ((by rw [hg];exact (below_size (by repeat (first|(with_reducible first|exact HB.out|apply below_alloc|apply pw_below_drewN|apply below_drew1|refine below_set ?_ GE345.out)|exact HB.out))):w.heap.size≤gb344))
                    have n4_:=Aside0.mk ((by rw [hg];exact (below_size (by repeat (first|(with_reducible first|exact HB.out|apply below_alloc|apply pw_below_drewN|apply below_drew1|refine below_set ?_ GE345.out)|exact HB.out))):w.heap.size≤gb344))
                    have n5_:=Aside0.mk ((by rw [hg];exact Nat.ne_of_lt (blk_lt (g:=gb345) (o:=.cells #[.int .i64 0,.int .i64 0,.int .i64 0,.int .i64 0] 178 (0,0)) (by (with_reducible repeat (first|refine blk_drewN ?_ _|refine blk_drew ?_|refine blk_alloc ?_ _));exact BK345.out)):gb345≠gb344))
                    have n6_:=Aside0.mk ((by rw [hg];exact Nat.ne_of_gt (blk_lt (g:=gb345) (o:=.cells #[.int .i64 0,.int .i64 0,.int .i64 0,.int .i64 0] 178 (0,0)) (by (with_reducible repeat (first|refine blk_drewN ?_ _|refine blk_drew ?_|refine blk_alloc ?_ _));exact BK345.out)):gb344≠gb345))
                    clear BK345
                    clear HB
                    have BK345:=n0_
                    have HB:=n1_
                    have BK344:=n2_
                    have GW344:=n3_
                    have GE344:=n4_
                    have NB345_344:=n5_
                    have NB344_345:=n6_
                    clear n0_ n1_ n2_ n3_ n4_ n5_ n6_
                    clear hb hbox hg
                    refine hK.out _ _ trivial (fun hHeld=>?_)
                    clear hK K
                    refine norm_ (a':=?_) ?_ ?_
                    rotate_left
                    ·show Act.put _ (some 5) _=_
                     simp only [Act.put,sp__,i64_w,i32_w]
                     rfl
                    exact norm_ (by first|(simp only [putAll,Act.put,List.setIfInBounds_toArray,List.set_cons_zero,List.set_cons_succ];done)|(simp only [putAll,Act.put,List.setIfInBounds_toArray,List.set_cons_zero,List.set_cons_succ];rfl)) (hJ9_10 (gb344,gb345) _ ⟨(by (with_reducible repeat (first|refine blk_drewN ?_ _|refine blk_drew ?_|refine blk_alloc ?_ _));exact BK344.out),(by (with_reducible repeat (first|refine blk_drewN ?_ _|refine blk_drew ?_|refine blk_alloc ?_ _));exact BK345.out),GW344.out,GE344.out,NB345_344.out,NB344_345.out,GW345.out,GE345.out,(by repeat (first|(with_reducible first|exact HB.out|apply below_alloc|apply pw_below_drewN|apply below_drew1|refine below_set ?_ GE345.out|refine below_set ?_ GE344.out)|exact HB.out))⟩)
                 ·skip
                  rintro gb344 w14 ⟨h0_,h1_,h2_,h3_⟩
                  have n0_:Aside0 (w14.heap[gb344]?=some (.cells #[.int .i64 0,.int .i64 0,.int .i64 0,.int .i64 0] 178 (0,0))):=⟨h0_⟩
                  have n1_:Aside0 (w.heap.size≤gb344):=⟨h1_⟩
                  have n2_:Aside0 (w.heap.size≤gb344):=⟨h2_⟩
                  have n3_:Aside0 (Below w.heap.size w w14):=⟨h3_⟩
                  clear HB
                  clear h0_ h1_ h2_ h3_
                  have BK344:=n0_
                  have GW344:=n1_
                  have GE344:=n2_
                  have HB:=n3_
                  clear n0_ n1_ n2_ n3_
                  have hHeld:=trivial
                  refine norm_ (a':=?_) ?_ ?_
                  rotate_left
                  ·simp only [putAll,Act.put,List.setIfInBounds_toArray,List.set_cons_zero,List.set_cons_succ]
                   rfl
                  refine two_ (i:=2) (j:=10) (Ni:=some 23) (Nj:=some 6) #[true,true,true,true,true,true,true,true,false,true,false,false,false] #[true,true,false,true,true,true,true,true,false,true,true,false,false] rfl rfl rfl rfl (two_of HT_.out (by kernel_rfl)) (by decide) (by decide) (fun K hK=>?_) (fun K hK=>?_)
                  ·skip
                   refine goes_ Tryz.func79 (by kernel_rfl) rfl #[.slice A0 l0.length c0,.int .i64 x18_2] (by rfl) rfl rfl (by (try simp only [List.map_toArray,List.map_cons,List.map_nil]);first|done|rfl|(simp only [List.length_drop,List.length_take];rfl)) ?_
                   with_reducible refine (plane_edge.calls _ _ l0 x18_2 t336 t337 t338 t339 _ ?side1 ?side2 A8.out).mono ?_
                   (case side1=>repeat (first|exact (Kd.C_below HR0.out HB.out)|(with_reducible refine Kd.C_alloc ?_ _)|(with_reducible refine Kd.C_drewN ?_ _)|(with_reducible refine Kd.C_drew ?_)))
                   (case side2=>exact HC0.out)
                   rintro e w15 ⟨rfl,hb⟩
                   refine ⟨_,rfl,?_⟩
                   have n0_:=Aside0.mk (blk_below (g:=gb344) (o:=.cells #[.int .i64 0,.int .i64 0,.int .i64 0,.int .i64 0] 178 (0,0)) (by (with_reducible repeat (first|refine blk_drewN ?_ _|refine blk_drew ?_|refine blk_alloc ?_ _));exact BK344.out) hb)
                   have n1_:=Aside0.mk (below_step (by repeat (first|(with_reducible first|exact HB.out|apply below_alloc|apply pw_below_drewN|apply below_drew1|refine below_set ?_ GE344.out)|exact HB.out)) hb)
                   clear BK344
                   clear HB
                   have BK344:=n0_
                   have HB:=n1_
                   clear n0_ n1_
                   (try clear hb)
                   (try clear hb2)
                   (try clear hk)
                   (try clear hi)
                   refine hK.out _ _ trivial (fun hHeld=>?_)
                   clear hK K
                   refine norm_ (a':=?_) ?_ ?_
                   rotate_left
                   ·show Act.put _ (some 23) _=_
                    simp only [Act.put,sp__,i64_w,i32_w]
                    rfl
                   exact norm_ (by first|(simp only [putAll,Act.put,List.setIfInBounds_toArray,List.set_cons_zero,List.set_cons_succ];done)|(simp only [putAll,Act.put,List.setIfInBounds_toArray,List.set_cons_zero,List.set_cons_succ];rfl)) (hJ2_9 (gb344) _ ⟨(by (with_reducible repeat (first|refine blk_drewN ?_ _|refine blk_drew ?_|refine blk_alloc ?_ _));exact BK344.out),GW344.out,GE344.out,(by repeat (first|(with_reducible first|exact HB.out|apply below_alloc|apply pw_below_drewN|apply below_drew1|refine below_set ?_ GE344.out)|exact HB.out))⟩)
                  ·skip
                   refine box_step ?hg (N:=6) ?hd (cs:=#[.int .i64 0,.int .i64 0,.int .i64 0,.int .i64 0]) (t:=178) ?hr ?_;(case hd=>rfl);(case hg=>rfl);(case hr=>first|(go_simp;done)|(go_simp;rfl))
                   intro gb345 hg w15 hbox hb
                   have n0_:=Aside0.mk (blk_below (g:=gb344) (o:=.cells #[.int .i64 0,.int .i64 0,.int .i64 0,.int .i64 0] 178 (0,0)) (by (with_reducible repeat (first|refine blk_drewN ?_ _|refine blk_drew ?_|refine blk_alloc ?_ _));exact BK344.out) hb)
                   have n1_:=Aside0.mk (below_step (by repeat (first|(with_reducible first|exact HB.out|apply below_alloc|apply pw_below_drewN|apply below_drew1|refine below_set ?_ GE344.out)|exact HB.out)) hb)
                   have n2_:=Aside0.mk (hbox)
                   have n3_:=Aside0.mk ((by rw [hg];exact (below_size (by repeat (first|(with_reducible first|exact HB.out|apply below_alloc|apply pw_below_drewN|apply below_drew1|refine below_set ?_ GE344.out)|exact HB.out))):w.heap.size≤gb345))
                   have n4_:=Aside0.mk ((by rw [hg];exact (below_size (by repeat (first|(with_reducible first|exact HB.out|apply below_alloc|apply pw_below_drewN|apply below_drew1|refine below_set ?_ GE344.out)|exact HB.out))):w.heap.size≤gb345))
                   have n5_:=Aside0.mk ((by rw [hg];exact Nat.ne_of_lt (blk_lt (g:=gb344) (o:=.cells #[.int .i64 0,.int .i64 0,.int .i64 0,.int .i64 0] 178 (0,0)) (by (with_reducible repeat (first|refine blk_drewN ?_ _|refine blk_drew ?_|refine blk_alloc ?_ _));exact BK344.out)):gb344≠gb345))
                   have n6_:=Aside0.mk ((by rw [hg];exact Nat.ne_of_gt (blk_lt (g:=gb344) (o:=.cells #[.int .i64 0,.int .i64 0,.int .i64 0,.int .i64 0] 178 (0,0)) (by (with_reducible repeat (first|refine blk_drewN ?_ _|refine blk_drew ?_|refine blk_alloc ?_ _));exact BK344.out)):gb345≠gb344))
                   clear BK344
                   clear HB
                   have BK344:=n0_
                   have HB:=n1_
                   have BK345:=n2_
                   have GW345:=n3_
                   have GE345:=n4_
                   have NB344_345:=n5_
                   have NB345_344:=n6_
                   clear n0_ n1_ n2_ n3_ n4_ n5_ n6_
                   clear hb hbox hg
                   refine hK.out _ _ trivial (fun hHeld=>?_)
                   clear hK K
                   refine norm_ (a':=?_) ?_ ?_
                   rotate_left
                   ·show Act.put _ (some 6) _=_
                    simp only [Act.put,sp__,i64_w,i32_w]
                    rfl
                   exact norm_ (by first|(simp only [putAll,Act.put,List.setIfInBounds_toArray,List.set_cons_zero,List.set_cons_succ];done)|(simp only [putAll,Act.put,List.setIfInBounds_toArray,List.set_cons_zero,List.set_cons_succ];rfl)) (hJ9_10 (gb344,gb345) _ ⟨(by (with_reducible repeat (first|refine blk_drewN ?_ _|refine blk_drew ?_|refine blk_alloc ?_ _));exact BK344.out),(by (with_reducible repeat (first|refine blk_drewN ?_ _|refine blk_drew ?_|refine blk_alloc ?_ _));exact BK345.out),GW344.out,GE344.out,NB345_344.out,NB344_345.out,GW345.out,GE345.out,(by repeat (first|(with_reducible first|exact HB.out|apply below_alloc|apply pw_below_drewN|apply below_drew1|refine below_set ?_ GE344.out|refine below_set ?_ GE345.out)|exact HB.out))⟩)
                ·skip
                 rintro _ w14 h0_
                 have n0_:Aside0 (Below w.heap.size w w14):=⟨h0_⟩
                 clear HB
                 clear h0_
                 have HB:=n0_
                 clear n0_
                 have hHeld:=trivial
                 refine norm_ (a':=?_) ?_ ?_
                 rotate_left
                 ·simp only [putAll,Act.put,List.setIfInBounds_toArray,List.set_cons_zero,List.set_cons_succ]
                  rfl
                 refine three_ (i:=8) (j:=9) (k:=10) (Ni:=some 29) (Nj:=some 5) (Nk:=some 6) #[true,true,true,true,true,true,true,true,true,false,false,false,false] #[true,true,true,true,true,true,true,true,false,true,false,false,false] #[true,true,true,true,true,true,true,true,false,false,true,false,false] rfl rfl rfl rfl rfl rfl (three_of HT_.out (by kernel_rfl)) (by decide) (by decide) (by decide) (fun K hK=>?_) (fun K hK=>?_) (fun K hK=>?_)
                 ·skip
                  refine goes_ Tryz.func79 (by kernel_rfl) rfl #[.slice A0 l0.length c0,.int .i64 (Int.tmod (wrap64 (x18_2+1)) (l0.length:Int))] (by rfl) rfl rfl (by (try simp only [List.map_toArray,List.map_cons,List.map_nil]);first|done|rfl|(simp only [List.length_drop,List.length_take];rfl)) ?_
                  with_reducible refine (plane_edge.calls _ _ l0 (Int.tmod (wrap64 (x18_2+1)) (l0.length:Int)) t340 t341 t342 t343 _ ?side1 ?side2 A10.out).mono ?_
                  (case side1=>repeat (first|exact (Kd.C_below HR0.out HB.out)|(with_reducible refine Kd.C_alloc ?_ _)|(with_reducible refine Kd.C_drewN ?_ _)|(with_reducible refine Kd.C_drew ?_)))
                  (case side2=>exact HC0.out)
                  rintro e w15 ⟨rfl,hb⟩
                  refine ⟨_,rfl,?_⟩
                  have n0_:=Aside0.mk (below_step (by repeat (first|(with_reducible first|exact HB.out|apply below_alloc|apply pw_below_drewN|apply below_drew1)|exact HB.out)) hb)
                  clear HB
                  have HB:=n0_
                  clear n0_
                  (try clear hb)
                  (try clear hb2)
                  (try clear hk)
                  (try clear hi)
                  refine hK.out _ _ trivial (fun hHeld=>?_)
                  clear hK K
                  refine norm_ (a':=?_) ?_ ?_
                  rotate_left
                  ·show Act.put _ (some 29) _=_
                   simp only [Act.put,sp__,i64_w,i32_w]
                   rfl
                  exact norm_ (by first|(simp only [putAll,Act.put,List.setIfInBounds_toArray,List.set_cons_zero,List.set_cons_succ];done)|(simp only [putAll,Act.put,List.setIfInBounds_toArray,List.set_cons_zero,List.set_cons_succ];rfl)) (hJ2_8 () _ (by repeat (first|(with_reducible first|exact HB.out|apply below_alloc|apply pw_below_drewN|apply below_drew1)|exact HB.out)))
                 ·skip
                  refine box_step ?hg (N:=5) ?hd (cs:=#[.int .i64 0,.int .i64 0,.int .i64 0,.int .i64 0]) (t:=178) ?hr ?_;(case hd=>rfl);(case hg=>rfl);(case hr=>first|(go_simp;done)|(go_simp;rfl))
                  intro gb344 hg w15 hbox hb
                  have n0_:=Aside0.mk (below_step (by repeat (first|(with_reducible first|exact HB.out|apply below_alloc|apply pw_below_drewN|apply below_drew1)|exact HB.out)) hb)
                  have n1_:=Aside0.mk (hbox)
                  have n2_:=Aside0.mk ((by rw [hg];exact (below_size (by repeat (first|(with_reducible first|exact HB.out|apply below_alloc|apply pw_below_drewN|apply below_drew1)|exact HB.out))):w.heap.size≤gb344))
                  have n3_:=Aside0.mk ((by rw [hg];exact (below_size (by repeat (first|(with_reducible first|exact HB.out|apply below_alloc|apply pw_below_drewN|apply below_drew1)|exact HB.out))):w.heap.size≤gb344))
                  clear HB
                  have HB:=n0_
                  have BK344:=n1_
                  have GW344:=n2_
                  have GE344:=n3_
                  clear n0_ n1_ n2_ n3_
                  clear hb hbox hg
                  refine hK.out _ _ trivial (fun hHeld=>?_)
                  clear hK K
                  refine norm_ (a':=?_) ?_ ?_
                  rotate_left
                  ·show Act.put _ (some 5) _=_
                   simp only [Act.put,sp__,i64_w,i32_w]
                   rfl
                  exact norm_ (by first|(simp only [putAll,Act.put,List.setIfInBounds_toArray,List.set_cons_zero,List.set_cons_succ];done)|(simp only [putAll,Act.put,List.setIfInBounds_toArray,List.set_cons_zero,List.set_cons_succ];rfl)) (hJ2_9 (gb344) _ ⟨(by (with_reducible repeat (first|refine blk_drewN ?_ _|refine blk_drew ?_|refine blk_alloc ?_ _));exact BK344.out),GW344.out,GE344.out,(by repeat (first|(with_reducible first|exact HB.out|apply below_alloc|apply pw_below_drewN|apply below_drew1|refine below_set ?_ GE344.out)|exact HB.out))⟩)
                 ·skip
                  refine box_step ?hg (N:=6) ?hd (cs:=#[.int .i64 0,.int .i64 0,.int .i64 0,.int .i64 0]) (t:=178) ?hr ?_;(case hd=>rfl);(case hg=>rfl);(case hr=>first|(go_simp;done)|(go_simp;rfl))
                  intro gb345 hg w15 hbox hb
                  have n0_:=Aside0.mk (below_step (by repeat (first|(with_reducible first|exact HB.out|apply below_alloc|apply pw_below_drewN|apply below_drew1)|exact HB.out)) hb)
                  have n1_:=Aside0.mk (hbox)
                  have n2_:=Aside0.mk ((by rw [hg];exact (below_size (by repeat (first|(with_reducible first|exact HB.out|apply below_alloc|apply pw_below_drewN|apply below_drew1)|exact HB.out))):w.heap.size≤gb345))
                  have n3_:=Aside0.mk ((by rw [hg];exact (below_size (by repeat (first|(with_reducible first|exact HB.out|apply below_alloc|apply pw_below_drewN|apply below_drew1)|exact HB.out))):w.heap.size≤gb345))
                  clear HB
                  have HB:=n0_
                  have BK345:=n1_
                  have GW345:=n2_
                  have GE345:=n3_
                  clear n0_ n1_ n2_ n3_
                  clear hb hbox hg
                  refine hK.out _ _ trivial (fun hHeld=>?_)
                  clear hK K
                  refine norm_ (a':=?_) ?_ ?_
                  rotate_left
                  ·show Act.put _ (some 6) _=_
                   simp only [Act.put,sp__,i64_w,i32_w]
                   rfl
                  exact norm_ (by first|(simp only [putAll,Act.put,List.setIfInBounds_toArray,List.set_cons_zero,List.set_cons_succ];done)|(simp only [putAll,Act.put,List.setIfInBounds_toArray,List.set_cons_zero,List.set_cons_succ];rfl)) (hJ2_10 (gb345) _ ⟨(by (with_reducible repeat (first|refine blk_drewN ?_ _|refine blk_drew ?_|refine blk_alloc ?_ _));exact BK345.out),GW345.out,GE345.out,(by repeat (first|(with_reducible first|exact HB.out|apply below_alloc|apply pw_below_drewN|apply below_drew1|refine below_set ?_ GE345.out)|exact HB.out))⟩)
               ·skip
                rintro ⟨gb344,gb345⟩ w15 ⟨h0_,h1_,h2_,h3_,h4_,h5_,h6_,h7_,h8_⟩
                have n0_:Aside0 (w15.heap[gb344]?=some (.cells #[.int .i64 0,.int .i64 0,.int .i64 0,.int .i64 0] 178 (0,0))):=⟨h0_⟩
                have n1_:Aside0 (w15.heap[gb345]?=some (.cells #[.int .i64 0,.int .i64 0,.int .i64 0,.int .i64 0] 178 (0,0))):=⟨h1_⟩
                have n2_:Aside0 (w.heap.size≤gb344):=⟨h2_⟩
                have n3_:Aside0 (w.heap.size≤gb344):=⟨h3_⟩
                have n4_:Aside0 (gb345≠gb344):=⟨h4_⟩
                have n5_:Aside0 (gb344≠gb345):=⟨h5_⟩
                have n6_:Aside0 (w.heap.size≤gb345):=⟨h6_⟩
                have n7_:Aside0 (w.heap.size≤gb345):=⟨h7_⟩
                have n8_:Aside0 (Below w.heap.size w w15):=⟨h8_⟩
                clear HB
                clear h0_ h1_ h2_ h3_ h4_ h5_ h6_ h7_ h8_
                have BK344:=n0_
                have BK345:=n1_
                have GW344:=n2_
                have GE344:=n3_
                have NB345_344:=n4_
                have NB344_345:=n5_
                have GW345:=n6_
                have GE345:=n7_
                have HB:=n8_
                clear n0_ n1_ n2_ n3_ n4_ n5_ n6_ n7_ n8_
                have hHeld:=trivial
                refine norm_ (a':=?_) ?_ ?_
                rotate_left
                ·simp only [putAll,Act.put,List.setIfInBounds_toArray,List.set_cons_zero,List.set_cons_succ]
                 rfl
                refine one_ (i:=2) (N:=some 23) #[true,true,true,true,true,true,true,true,false,true,true,false,false] rfl rfl (one_of HT_.out (by kernel_rfl)) (by decide) (fun K hK=>?_)
                refine goes_ Tryz.func79 (by kernel_rfl) rfl #[.slice A0 l0.length c0,.int .i64 x18_2] (by rfl) rfl rfl (by (try simp only [List.map_toArray,List.map_cons,List.map_nil]);first|done|rfl|(simp only [List.length_drop,List.length_take];rfl)) ?_
                with_reducible refine (plane_edge.calls _ _ l0 x18_2 t336 t337 t338 t339 _ ?side1 ?side2 A8.out).mono ?_
                (case side1=>repeat (first|exact (Kd.C_below HR0.out HB.out)|(with_reducible refine Kd.C_alloc ?_ _)|(with_reducible refine Kd.C_drewN ?_ _)|(with_reducible refine Kd.C_drew ?_)))
                (case side2=>exact HC0.out)
                rintro e w16 ⟨rfl,hb⟩
                refine ⟨_,rfl,?_⟩
                have n0_:=Aside0.mk (blk_below (g:=gb344) (o:=.cells #[.int .i64 0,.int .i64 0,.int .i64 0,.int .i64 0] 178 (0,0)) (by (with_reducible repeat (first|refine blk_drewN ?_ _|refine blk_drew ?_|refine blk_alloc ?_ _));exact BK344.out) hb)
                have n1_:=Aside0.mk (blk_below (g:=gb345) (o:=.cells #[.int .i64 0,.int .i64 0,.int .i64 0,.int .i64 0] 178 (0,0)) (by (with_reducible repeat (first|refine blk_drewN ?_ _|refine blk_drew ?_|refine blk_alloc ?_ _));exact BK345.out) hb)
                have n2_:=Aside0.mk (below_step (by repeat (first|(with_reducible first|exact HB.out|apply below_alloc|apply pw_below_drewN|apply below_drew1|refine below_set ?_ GE344.out|refine below_set ?_ GE345.out)|exact HB.out)) hb)
                clear BK344
                clear BK345
                clear HB
                have BK344:=n0_
                have BK345:=n1_
                have HB:=n2_
                clear n0_ n1_ n2_
                (try clear hb)
                (try clear hb2)
                (try clear hk)
                (try clear hi)
                refine hK.out _ _ trivial (fun hHeld=>?_)
                clear hK K
                refine norm_ (a':=?_) ?_ ?_
                rotate_left
                ·show Act.put _ (some 23) _=_
                 simp only [Act.put,sp__,i64_w,i32_w]
                 rfl
                exact norm_ (by first|(simp only [putAll,Act.put,List.setIfInBounds_toArray,List.set_cons_zero,List.set_cons_succ];done)|(simp only [putAll,Act.put,List.setIfInBounds_toArray,List.set_cons_zero,List.set_cons_succ];rfl)) (hJ2_9_10 (gb344,gb345) _ ⟨(by (with_reducible repeat (first|refine blk_drewN ?_ _|refine blk_drew ?_|refine blk_alloc ?_ _));exact BK344.out),(by (with_reducible repeat (first|refine blk_drewN ?_ _|refine blk_drew ?_|refine blk_alloc ?_ _));exact BK345.out),GW344.out,GE344.out,NB345_344.out,NB344_345.out,GW345.out,GE345.out,(by repeat (first|(with_reducible first|exact HB.out|apply below_alloc|apply pw_below_drewN|apply below_drew1|refine below_set ?_ GE344.out|refine below_set ?_ GE345.out)|exact HB.out))⟩)
              ·skip
               rintro gb345 w15 ⟨h0_,h1_,h2_,h3_⟩
               have n0_:Aside0 (w15.heap[gb345]?=some (.cells #[.int .i64 0,.int .i64 0,.int .i64 0,.int .i64 0] 178 (0,0))):=⟨h0_⟩
               have n1_:Aside0 (w.heap.size≤gb345):=⟨h1_⟩
               have n2_:Aside0 (w.heap.size≤gb345):=⟨h2_⟩
               have n3_:Aside0 (Below w.heap.size w w15):=⟨h3_⟩
               clear HB
               clear h0_ h1_ h2_ h3_
               have BK345:=n0_
               have GW345:=n1_
               have GE345:=n2_
               have HB:=n3_
               clear n0_ n1_ n2_ n3_
               have hHeld:=trivial
               refine norm_ (a':=?_) ?_ ?_
               rotate_left
               ·simp only [putAll,Act.put,List.setIfInBounds_toArray,List.set_cons_zero,List.set_cons_succ]
                rfl
               refine two_ (i:=8) (j:=9) (Ni:=some 29) (Nj:=some 5) #[true,true,true,true,true,true,true,true,true,false,true,false,false] #[true,true,true,true,true,true,true,true,false,true,true,false,false] rfl rfl rfl rfl (two_of HT_.out (by kernel_rfl)) (by decide) (by decide) (fun K hK=>?_) (fun K hK=>?_)
               ·skip
                refine goes_ Tryz.func79 (by kernel_rfl) rfl #[.slice A0 l0.length c0,.int .i64 (Int.tmod (wrap64 (x18_2+1)) (l0.length:Int))] (by rfl) rfl rfl (by (try simp only [List.map_toArray,List.map_cons,List.map_nil]);first|done|rfl|(simp only [List.length_drop,List.length_take];rfl)) ?_
                with_reducible refine (plane_edge.calls _ _ l0 (Int.tmod (wrap64 (x18_2+1)) (l0.length:Int)) t340 t341 t342 t343 _ ?side1 ?side2 A10.out).mono ?_
                (case side1=>repeat (first|exact (Kd.C_below HR0.out HB.out)|(with_reducible refine Kd.C_alloc ?_ _)|(with_reducible refine Kd.C_drewN ?_ _)|(with_reducible refine Kd.C_drew ?_)))
                (case side2=>exact HC0.out)
                rintro e w16 ⟨rfl,hb⟩
                refine ⟨_,rfl,?_⟩
                have n0_:=Aside0.mk (blk_below (g:=gb345) (o:=.cells #[.int .i64 0,.int .i64 0,.int .i64 0,.int .i64 0] 178 (0,0)) (by (with_reducible repeat (first|refine blk_drewN ?_ _|refine blk_drew ?_|refine blk_alloc ?_ _));exact BK345.out) hb)
                have n1_:=Aside0.mk (below_step (by repeat (first|(with_reducible first|exact HB.out|apply below_alloc|apply pw_below_drewN|apply below_drew1|refine below_set ?_ GE345.out)|exact HB.out)) hb)
                clear BK345
                clear HB
                have BK345:=n0_
                have HB:=n1_
                clear n0_ n1_
                (try clear hb)
                (try clear hb2)
                (try clear hk)
                (try clear hi)
                refine hK.out _ _ trivial (fun hHeld=>?_)
                clear hK K
                refine norm_ (a':=?_) ?_ ?_
                rotate_left
                ·show Act.put _ (some 29) _=_
                 simp only [Act.put,sp__,i64_w,i32_w]
                 rfl
                exact norm_ (by first|(simp only [putAll,Act.put,List.setIfInBounds_toArray,List.set_cons_zero,List.set_cons_succ];done)|(simp only [putAll,Act.put,List.setIfInBounds_toArray,List.set_cons_zero,List.set_cons_succ];rfl)) (hJ2_8_10 (gb345) _ ⟨(by (with_reducible repeat (first|refine blk_drewN ?_ _|refine blk_drew ?_|refine blk_alloc ?_ _));exact BK345.out),GW345.out,GE345.out,(by repeat (first|(with_reducible first|exact HB.out|apply below_alloc|apply pw_below_drewN|apply below_drew1|refine below_set ?_ GE345.out)|exact HB.out))⟩)
               ·skip
                refine box_step ?hg (N:=5) ?hd (cs:=#[.int .i64 0,.int .i64 0,.int .i64 0,.int .i64 0]) (t:=178) ?hr ?_;(case hd=>rfl);(case hg=>rfl);(case hr=>first|(go_simp;done)|(go_simp;rfl))
                intro gb344 hg w16 hbox hb
                have n0_:=Aside0.mk (blk_below (g:=gb345) (o:=.cells #[.int .i64 0,.int .i64 0,.int .i64 0,.int .i64 0] 178 (0,0)) (by (with_reducible repeat (first|refine blk_drewN ?_ _|refine blk_drew ?_|refine blk_alloc ?_ _));exact BK345.out) hb)
                have n1_:=Aside0.mk (below_step (by repeat (first|(with_reducible first|exact HB.out|apply below_alloc|apply pw_below_drewN|apply below_drew1|refine below_set ?_ GE345.out)|exact HB.out)) hb)
                have n2_:=Aside0.mk (hbox)
                have n3_:=Aside0.mk ((by rw [hg];exact (below_size (by repeat (first|(with_reducible first|exact HB.out|apply below_alloc|apply pw_below_drewN|apply below_drew1|refine below_set ?_ GE345.out)|exact HB.out))):w.heap.size≤gb344))
                have n4_:=Aside0.mk ((by rw [hg];exact (below_size (by repeat (first|(with_reducible first|exact HB.out|apply below_alloc|apply pw_below_drewN|apply below_drew1|refine below_set ?_ GE345.out)|exact HB.out))):w.heap.size≤gb344))
                have n5_:=Aside0.mk ((by rw [hg];exact Nat.ne_of_lt (blk_lt (g:=gb345) (o:=.cells #[.int .i64 0,.int .i64 0,.int .i64 0,.int .i64 0] 178 (0,0)) (by (with_reducible repeat (first|refine blk_drewN ?_ _|refine blk_drew ?_|refine blk_alloc ?_ _));exact BK345.out)):gb345≠gb344))
                have n6_:=Aside0.mk ((by rw [hg];exact Nat.ne_of_gt (blk_lt (g:=gb345) (o:=.cells #[.int .i64 0,.int .i64 0,.int .i64 0,.int .i64 0] 178 (0,0)) (by (with_reducible repeat (first|refine blk_drewN ?_ _|refine blk_drew ?_|refine blk_alloc ?_ _));exact BK345.out)):gb344≠gb345))
                clear BK345
                clear HB
                have BK345:=n0_
                have HB:=n1_
                have BK344:=n2_
                have GW344:=n3_
                have GE344:=n4_
                have NB345_344:=n5_
                have NB344_345:=n6_
                clear n0_ n1_ n2_ n3_ n4_ n5_ n6_
                clear hb hbox hg
                refine hK.out _ _ trivial (fun hHeld=>?_)
                clear hK K
                refine norm_ (a':=?_) ?_ ?_
                rotate_left
                ·show Act.put _ (some 5) _=_
                 simp only [Act.put,sp__,i64_w,i32_w]
                 rfl
                exact norm_ (by first|(simp only [putAll,Act.put,List.setIfInBounds_toArray,List.set_cons_zero,List.set_cons_succ];done)|(simp only [putAll,Act.put,List.setIfInBounds_toArray,List.set_cons_zero,List.set_cons_succ];rfl)) (hJ2_9_10 (gb344,gb345) _ ⟨(by (with_reducible repeat (first|refine blk_drewN ?_ _|refine blk_drew ?_|refine blk_alloc ?_ _));exact BK344.out),(by (with_reducible repeat (first|refine blk_drewN ?_ _|refine blk_drew ?_|refine blk_alloc ?_ _));exact BK345.out),GW344.out,GE344.out,NB345_344.out,NB344_345.out,GW345.out,GE345.out,(by repeat (first|(with_reducible first|exact HB.out|apply below_alloc|apply pw_below_drewN|apply below_drew1|refine below_set ?_ GE345.out|refine below_set ?_ GE344.out)|exact HB.out))⟩)
             ·skip
              rintro gb344 w15 ⟨h0_,h1_,h2_,h3_⟩
              have n0_:Aside0 (w15.heap[gb344]?=some (.cells #[.int .i64 0,.int .i64 0,.int .i64 0,.int .i64 0] 178 (0,0))):=⟨h0_⟩
              have n1_:Aside0 (w.heap.size≤gb344):=⟨h1_⟩
              have n2_:Aside0 (w.heap.size≤gb344):=⟨h2_⟩
              have n3_:Aside0 (Below w.heap.size w w15):=⟨h3_⟩
              clear HB
              clear h0_ h1_ h2_ h3_
              have BK344:=n0_
              have GW344:=n1_
              have GE344:=n2_
              have HB:=n3_
              clear n0_ n1_ n2_ n3_
              have hHeld:=trivial
              refine norm_ (a':=?_) ?_ ?_
              rotate_left
              ·simp only [putAll,Act.put,List.setIfInBounds_toArray,List.set_cons_zero,List.set_cons_succ]
               rfl
              refine two_ (i:=8) (j:=10) (Ni:=some 29) (Nj:=some 6) #[true,true,true,true,true,true,true,true,true,true,false,false,false] #[true,true,true,true,true,true,true,true,false,true,true,false,false] rfl rfl rfl rfl (two_of HT_.out (by kernel_rfl)) (by decide) (by decide) (fun K hK=>?_) (fun K hK=>?_)
              ·skip
               refine goes_ Tryz.func79 (by kernel_rfl) rfl #[.slice A0 l0.length c0,.int .i64 (Int.tmod (wrap64 (x18_2+1)) (l0.length:Int))] (by rfl) rfl rfl (by (try simp only [List.map_toArray,List.map_cons,List.map_nil]);first|done|rfl|(simp only [List.length_drop,List.length_take];rfl)) ?_
               with_reducible refine (plane_edge.calls _ _ l0 (Int.tmod (wrap64 (x18_2+1)) (l0.length:Int)) t340 t341 t342 t343 _ ?side1 ?side2 A10.out).mono ?_
               (case side1=>repeat (first|exact (Kd.C_below HR0.out HB.out)|(with_reducible refine Kd.C_alloc ?_ _)|(with_reducible refine Kd.C_drewN ?_ _)|(with_reducible refine Kd.C_drew ?_)))
               (case side2=>exact HC0.out)
               rintro e w16 ⟨rfl,hb⟩
               refine ⟨_,rfl,?_⟩
               have n0_:=Aside0.mk (blk_below (g:=gb344) (o:=.cells #[.int .i64 0,.int .i64 0,.int .i64 0,.int .i64 0] 178 (0,0)) (by (with_reducible repeat (first|refine blk_drewN ?_ _|refine blk_drew ?_|refine blk_alloc ?_ _));exact BK344.out) hb)
               have n1_:=Aside0.mk (below_step (by repeat (first|(with_reducible first|exact HB.out|apply below_alloc|apply pw_below_drewN|apply below_drew1|refine below_set ?_ GE344.out)|exact HB.out)) hb)
               clear BK344
               clear HB
               have BK344:=n0_
               have HB:=n1_
               clear n0_ n1_
               (try clear hb)
               (try clear hb2)
               (try clear hk)
               (try clear hi)
               refine hK.out _ _ trivial (fun hHeld=>?_)
               clear hK K
               refine norm_ (a':=?_) ?_ ?_
               rotate_left
               ·show Act.put _ (some 29) _=_
                simp only [Act.put,sp__,i64_w,i32_w]
                rfl
               exact norm_ (by first|(simp only [putAll,Act.put,List.setIfInBounds_toArray,List.set_cons_zero,List.set_cons_succ];done)|(simp only [putAll,Act.put,List.setIfInBounds_toArray,List.set_cons_zero,List.set_cons_succ];rfl)) (hJ2_8_9 (gb344) _ ⟨(by (with_reducible repeat (first|refine blk_drewN ?_ _|refine blk_drew ?_|refine blk_alloc ?_ _));exact BK344.out),GW344.out,GE344.out,(by repeat (first|(with_reducible first|exact HB.out|apply below_alloc|apply pw_below_drewN|apply below_drew1|refine below_set ?_ GE344.out)|exact HB.out))⟩)
              ·skip
               refine box_step ?hg (N:=6) ?hd (cs:=#[.int .i64 0,.int .i64 0,.int .i64 0,.int .i64 0]) (t:=178) ?hr ?_;(case hd=>rfl);(case hg=>rfl);(case hr=>first|(go_simp;done)|(go_simp;rfl))
               intro gb345 hg w16 hbox hb
               have n0_:=Aside0.mk (blk_below (g:=gb344) (o:=.cells #[.int .i64 0,.int .i64 0,.int .i64 0,.int .i64 0] 178 (0,0)) (by (with_reducible repeat (first|refine blk_drewN ?_ _|refine blk_drew ?_|refine blk_alloc ?_ _));exact BK344.out) hb)
               have n1_:=Aside0.mk (below_step (by repeat (first|(with_reducible first|exact HB.out|apply below_alloc|apply pw_below_drewN|apply below_drew1|refine below_set ?_ GE344.out)|exact HB.out)) hb)
               have n2_:=Aside0.mk (hbox)
               have n3_:=Aside0.mk ((by rw [hg];exact (below_size (by repeat (first|(with_reducible first|exact HB.out|apply below_alloc|apply pw_below_drewN|apply below_drew1|refine below_set ?_ GE344.out)|exact HB.out))):w.heap.size≤gb345))
               have n4_:=Aside0.mk ((by rw [hg];exact (below_size (by repeat (first|(with_reducible first|exact HB.out|apply below_alloc|apply pw_below_drewN|apply below_drew1|refine below_set ?_ GE344.out)|exact HB.out))):w.heap.size≤gb345))
               have n5_:=Aside0.mk ((by rw [hg];exact Nat.ne_of_lt (blk_lt (g:=gb344) (o:=.cells #[.int .i64 0,.int .i64 0,.int .i64 0,.int .i64 0] 178 (0,0)) (by (with_reducible repeat (first|refine blk_drewN ?_ _|refine blk_drew ?_|refine blk_alloc ?_ _));exact BK344.out)):gb344≠gb345))
               have n6_:=Aside0.mk ((by rw [hg];exact Nat.ne_of_gt (blk_lt (g:=gb344) (o:=.cells #[.int .i64 0,.int .i64 0,.int .i64 0,.int .i64 0] 178 (0,0)) (by (with_reducible repeat (first|refine blk_drewN ?_ _|refine blk_drew ?_|refine blk_alloc ?_ _));exact BK344.out)):gb345≠gb344))
               clear BK344
               clear HB
               have BK344:=n0_
               have HB:=n1_
               have BK345:=n2_
               have GW345:=n3_
               have GE345:=n4_
               have NB344_345:=n5_
               have NB345_344:=n6_
               clear n0_ n1_ n2_ n3_ n4_ n5_ n6_
               clear hb hbox hg
               refine hK.out _ _ trivial (fun hHeld=>?_)
               clear hK K
               refine norm_ (a':=?_) ?_ ?_
               rotate_left
               ·show Act.put _ (some 6) _=_
                simp only [Act.put,sp__,i64_w,i32_w]
                rfl
               exact norm_ (by first|(simp only [putAll,Act.put,List.setIfInBounds_toArray,List.set_cons_zero,List.set_cons_succ];done)|(simp only [putAll,Act.put,List.setIfInBounds_toArray,List.set_cons_zero,List.set_cons_succ];rfl)) (hJ2_9_10 (gb344,gb345) _ ⟨(by (with_reducible repeat (first|refine blk_drewN ?_ _|refine blk_drew ?_|refine blk_alloc ?_ _));exact BK344.out),(by (with_reducible repeat (first|refine blk_drewN ?_ _|refine blk_drew ?_|refine blk_alloc ?_ _));exact BK345.out),GW344.out,GE344.out,NB345_344.out,NB344_345.out,GW345.out,GE345.out,(by repeat (first|(with_reducible first|exact HB.out|apply below_alloc|apply pw_below_drewN|apply below_drew1|refine below_set ?_ GE344.out|refine below_set ?_ GE345.out)|exact HB.out))⟩)
            ·skip
             rintro _ w15 h0_
             have n0_:Aside0 (Below w.heap.size w w15):=⟨h0_⟩
             clear HB
             clear h0_
             have HB:=n0_
             clear n0_
             have hHeld:=trivial
             refine norm_ (a':=?_) ?_ ?_
             rotate_left
             ·simp only [putAll,Act.put,List.setIfInBounds_toArray,List.set_cons_zero,List.set_cons_succ]
              rfl
             refine two_ (i:=9) (j:=10) (Ni:=some 5) (Nj:=some 6) #[true,true,true,true,true,true,true,true,true,true,false,false,false] #[true,true,true,true,true,true,true,true,true,false,true,false,false] rfl rfl rfl rfl (two_of HT_.out (by kernel_rfl)) (by decide) (by decide) (fun K hK=>?_) (fun K hK=>?_)
             ·skip
              refine box_step ?hg (N:=5) ?hd (cs:=#[.int .i64 0,.int .i64 0,.int .i64 0,.int .i64 0]) (t:=178) ?hr ?_;(case hd=>rfl);(case hg=>rfl);(case hr=>first|(go_simp;done)|(go_simp;rfl))
              intro gb344 hg w16 hbox hb
              have n0_:=Aside0.mk (below_step (by repeat (first|(with_reducible first|exact HB.out|apply below_alloc|apply pw_below_drewN|apply below_drew1)|exact HB.out)) hb)
              have n1_:=Aside0.mk (hbox)
              have n2_:=Aside0.mk ((by rw [hg];exact (below_size (by repeat (first|(with_reducible first|exact HB.out|apply below_alloc|apply pw_below_drewN|apply below_drew1)|exact HB.out))):w.heap.size≤gb344))
              have n3_:=Aside0.mk ((by rw [hg];exact (below_size (by repeat (first|(with_reducible first|exact HB.out|apply below_alloc|apply pw_below_drewN|apply below_drew1)|exact HB.out))):w.heap.size≤gb344))
              clear HB
              have HB:=n0_
              have BK344:=n1_
              have GW344:=n2_
              have GE344:=n3_
              clear n0_ n1_ n2_ n3_
              clear hb hbox hg
              refine hK.out _ _ trivial (fun hHeld=>?_)
              clear hK K
              refine norm_ (a':=?_) ?_ ?_
              rotate_left
              ·show Act.put _ (some 5) _=_
               simp only [Act.put,sp__,i64_w,i32_w]
               rfl
              exact norm_ (by first|(simp only [putAll,Act.put,List.setIfInBounds_toArray,List.set_cons_zero,List.set_cons_succ];done)|(simp only [putAll,Act.put,List.setIfInBounds_toArray,List.set_cons_zero,List.set_cons_succ];rfl)) (hJ2_8_9 (gb344) _ ⟨(by (with_reducible repeat (first|refine blk_drewN ?_ _|refine blk_drew ?_|refine blk_alloc ?_ _));exact BK344.out),GW344.out,GE344.out,(by repeat (first|(with_reducible first|exact HB.out|apply below_alloc|apply pw_below_drewN|apply below_drew1|refine below_set ?_ GE344.out)|exact HB.out))⟩)
             ·skip
              refine box_step ?hg (N:=6) ?hd (cs:=#[.int .i64 0,.int .i64 0,.int .i64 0,.int .i64 0]) (t:=178) ?hr ?_;(case hd=>rfl);(case hg=>rfl);(case hr=>first|(go_simp;done)|(go_simp;rfl))
              intro gb345 hg w16 hbox hb
              have n0_:=Aside0.mk (below_step (by repeat (first|(with_reducible first|exact HB.out|apply below_alloc|apply pw_below_drewN|apply below_drew1)|exact HB.out)) hb)
              have n1_:=Aside0.mk (hbox)
              have n2_:=Aside0.mk ((by rw [hg];exact (below_size (by repeat (first|(with_reducible first|exact HB.out|apply below_alloc|apply pw_below_drewN|apply below_drew1)|exact HB.out))):w.heap.size≤gb345))
              have n3_:=Aside0.mk ((by rw [hg];exact (below_size (by repeat (first|(with_reducible first|exact HB.out|apply below_alloc|apply pw_below_drewN|apply below_drew1)|exact HB.out))):w.heap.size≤gb345))
              clear HB
              have HB:=n0_
              have BK345:=n1_
              have GW345:=n2_
              have GE345:=n3_
              clear n0_ n1_ n2_ n3_
              clear hb hbox hg
              refine hK.out _ _ trivial (fun hHeld=>?_)
              clear hK K
              refine norm_ (a':=?_) ?_ ?_
              rotate_left
              ·show Act.put _ (some 6) _=_
               simp only [Act.put,sp__,i64_w,i32_w]
               rfl
              exact norm_ (by first|(simp only [putAll,Act.put,List.setIfInBounds_toArray,List.set_cons_zero,List.set_cons_succ];done)|(simp only [putAll,Act.put,List.setIfInBounds_toArray,List.set_cons_zero,List.set_cons_succ];rfl)) (hJ2_8_10 (gb345) _ ⟨(by (with_reducible repeat (first|refine blk_drewN ?_ _|refine blk_drew ?_|refine blk_alloc ?_ _));exact BK345.out),GW345.out,GE345.out,(by repeat (first|(with_reducible first|exact HB.out|apply below_alloc|apply pw_below_drewN|apply below_drew1|refine below_set ?_ GE345.out)|exact HB.out))⟩)
           ·skip
            rintro ⟨gb344,gb345⟩ w16 ⟨h0_,h1_,h2_,h3_,h4_,h5_,h6_,h7_,h8_⟩
            have n0_:Aside0 (w16.heap[gb344]?=some (.cells #[.int .i64 0,.int .i64 0,.int .i64 0,.int .i64 0] 178 (0,0))):=⟨h0_⟩
            have n1_:Aside0 (w16.heap[gb345]?=some (.cells #[.int .i64 0,.int .i64 0,.int .i64 0,.int .i64 0] 178 (0,0))):=⟨h1_⟩
            have n2_:Aside0 (w.heap.size≤gb344):=⟨h2_⟩
            have n3_:Aside0 (w.heap.size≤gb344):=⟨h3_⟩
            have n4_:Aside0 (gb345≠gb344):=⟨h4_⟩
            have n5_:Aside0 (gb344≠gb345):=⟨h5_⟩
            have n6_:Aside0 (w.heap.size≤gb345):=⟨h6_⟩
            have n7_:Aside0 (w.heap.size≤gb345):=⟨h7_⟩
            have n8_:Aside0 (Below w.heap.size w w16):=⟨h8_⟩
            clear HB
            clear h0_ h1_ h2_ h3_ h4_ h5_ h6_ h7_ h8_
            have BK344:=n0_
            have BK345:=n1_
            have GW344:=n2_
            have GE344:=n3_
            have NB345_344:=n4_
            have NB344_345:=n5_
            have GW345:=n6_
            have GE345:=n7_
            have HB:=n8_
            clear n0_ n1_ n2_ n3_ n4_ n5_ n6_ n7_ n8_
            have hHeld:=trivial
            refine norm_ (a':=?_) ?_ ?_
            rotate_left
            ·simp only [putAll,Act.put,List.setIfInBounds_toArray,List.set_cons_zero,List.set_cons_succ]
             rfl
            refine one_ (i:=8) (N:=some 29) #[true,true,true,true,true,true,true,true,true,true,true,false,false] rfl rfl (one_of HT_.out (by kernel_rfl)) (by decide) (fun K hK=>?_)
            refine goes_ Tryz.func79 (by kernel_rfl) rfl #[.slice A0 l0.length c0,.int .i64 (Int.tmod (wrap64 (x18_2+1)) (l0.length:Int))] (by rfl) rfl rfl (by (try simp only [List.map_toArray,List.map_cons,List.map_nil]);first|done|rfl|(simp only [List.length_drop,List.length_take];rfl)) ?_
            with_reducible refine (plane_edge.calls _ _ l0 (Int.tmod (wrap64 (x18_2+1)) (l0.length:Int)) t340 t341 t342 t343 _ ?side1 ?side2 A10.out).mono ?_
            (case side1=>repeat (first|exact (Kd.C_below HR0.out HB.out)|(with_reducible refine Kd.C_alloc ?_ _)|(with_reducible refine Kd.C_drewN ?_ _)|(with_reducible refine Kd.C_drew ?_)))
            (case side2=>exact HC0.out)
            rintro e w17 ⟨rfl,hb⟩
            refine ⟨_,rfl,?_⟩
            have n0_:=Aside0.mk (blk_below (g:=gb344) (o:=.cells #[.int .i64 0,.int .i64 0,.int .i64 0,.int .i64 0] 178 (0,0)) (by (with_reducible repeat (first|refine blk_drewN ?_ _|refine blk_drew ?_|refine blk_alloc ?_ _));exact BK344.out) hb)
            have n1_:=Aside0.mk (blk_below (g:=gb345) (o:=.cells #[.int .i64 0,.int .i64 0,.int .i64 0,.int .i64 0] 178 (0,0)) (by (with_reducible repeat (first|refine blk_drewN ?_ _|refine blk_drew ?_|refine blk_alloc ?_ _));exact BK345.out) hb)
            have n2_:=Aside0.mk (below_step (by repeat (first|(with_reducible first|exact HB.out|apply below_alloc|apply pw_below_drewN|apply below_drew1|refine below_set ?_ GE344.out|refine below_set ?_ GE345.out)|exact HB.out)) hb)
            clear BK344
            clear BK345
            clear HB
            have BK344:=n0_
            have BK345:=n1_
            have HB:=n2_
            clear n0_ n1_ n2_
            (try clear hb)
            (try clear hb2)
            (try clear hk)
            (try clear hi)
            refine hK.out _ _ trivial (fun hHeld=>?_)
            clear hK K
            refine norm_ (a':=?_) ?_ ?_
            rotate_left
            ·show Act.put _ (some 29) _=_
             simp only [Act.put,sp__,i64_w,i32_w]
             rfl
            exact norm_ (by first|(simp only [putAll,Act.put,List.setIfInBounds_toArray,List.set_cons_zero,List.set_cons_succ];done)|(simp only [putAll,Act.put,List.setIfInBounds_toArray,List.set_cons_zero,List.set_cons_succ];rfl)) (hJ2_8_9_10 (gb344,gb345) _ ⟨(by (with_reducible repeat (first|refine blk_drewN ?_ _|refine blk_drew ?_|refine blk_alloc ?_ _));exact BK344.out),(by (with_reducible repeat (first|refine blk_drewN ?_ _|refine blk_drew ?_|refine blk_alloc ?_ _));exact BK345.out),GW344.out,GE344.out,NB345_344.out,NB344_345.out,GW345.out,GE345.out,(by repeat (first|(with_reducible first|exact HB.out|apply below_alloc|apply pw_below_drewN|apply below_drew1|refine below_set ?_ GE344.out|refine below_set ?_ GE345.out)|exact HB.out))⟩)
          ·skip
           rintro gb345 w16 ⟨h0_,h1_,h2_,h3_⟩
           have n0_:Aside0 (w16.heap[gb345]?=some (.cells #[.int .i64 0,.int .i64 0,.int .i64 0,.int .i64 0] 178 (0,0))):=⟨h0_⟩
           have n1_:Aside0 (w.heap.size≤gb345):=⟨h1_⟩
           have n2_:Aside0 (w.heap.size≤gb345):=⟨h2_⟩
           have n3_:Aside0 (Below w.heap.size w w16):=⟨h3_⟩
           clear HB
           clear h0_ h1_ h2_ h3_
           have BK345:=n0_
           have GW345:=n1_
           have GE345:=n2_
           have HB:=n3_
           clear n0_ n1_ n2_ n3_
           have hHeld:=trivial
           refine norm_ (a':=?_) ?_ ?_
           rotate_left
           ·simp only [putAll,Act.put,List.setIfInBounds_toArray,List.set_cons_zero,List.set_cons_succ]
            rfl
           refine one_ (i:=9) (N:=some 5) #[true,true,true,true,true,true,true,true,true,true,true,false,false] rfl rfl (one_of HT_.out (by kernel_rfl)) (by decide) (fun K hK=>?_)
           refine box_step ?hg (N:=5) ?hd (cs:=#[.int .i64 0,.int .i64 0,.int .i64 0,.int .i64 0]) (t:=178) ?hr ?_;(case hd=>rfl);(case hg=>rfl);(case hr=>first|(go_simp;done)|(go_simp;rfl))
           intro gb344 hg w17 hbox hb
           have n0_:=Aside0.mk (blk_below (g:=gb345) (o:=.cells #[.int .i64 0,.int .i64 0,.int .i64 0,.int .i64 0] 178 (0,0)) (by (with_reducible repeat (first|refine blk_drewN ?_ _|refine blk_drew ?_|refine blk_alloc ?_ _));exact BK345.out) hb)
           have n1_:=Aside0.mk (below_step (by repeat (first|(with_reducible first|exact HB.out|apply below_alloc|apply pw_below_drewN|apply below_drew1|refine below_set ?_ GE345.out)|exact HB.out)) hb)
           have n2_:=Aside0.mk (hbox)
           have n3_:=Aside0.mk ((by rw [hg];exact (below_size (by repeat (first|(with_reducible first|exact HB.out|apply below_alloc|apply pw_below_drewN|apply below_drew1|refine below_set ?_ GE345.out)|exact HB.out))):w.heap.size≤gb344))
           have n4_:=Aside0.mk ((by rw [hg];exact (below_size (by repeat (first|(with_reducible first|exact HB.out|apply below_alloc|apply pw_below_drewN|apply below_drew1|refine below_set ?_ GE345.out)|exact HB.out))):w.heap.size≤gb344))
           have n5_:=Aside0.mk ((by rw [hg];exact Nat.ne_of_lt (blk_lt (g:=gb345) (o:=.cells #[.int .i64 0,.int .i64 0,.int .i64 0,.int .i64 0] 178 (0,0)) (by (with_reducible repeat (first|refine blk_drewN ?_ _|refine blk_drew ?_|refine blk_alloc ?_ _));exact BK345.out)):gb345≠gb344))
           have n6_:=Aside0.mk ((by rw [hg];exact Nat.ne_of_gt (blk_lt (g:=gb345) (o:=.cells #[.int .i64 0,.int .i64 0,.int .i64 0,.int .i64 0] 178 (0,0)) (by (with_reducible repeat (first|refine blk_drewN ?_ _|refine blk_drew ?_|refine blk_alloc ?_ _));exact BK345.out)):gb344≠gb345))
           clear BK345
           clear HB
           have BK345:=n0_
           have HB:=n1_
           have BK344:=n2_
           have GW344:=n3_
           have GE344:=n4_
           have NB345_344:=n5_
           have NB344_345:=n6_
           clear n0_ n1_ n2_ n3_ n4_ n5_ n6_
           clear hb hbox hg
           refine hK.out _ _ trivial (fun hHeld=>?_)
           clear hK K
           refine norm_ (a':=?_) ?_ ?_
           rotate_left
           ·show Act.put _ (some 5) _=_
            simp only [Act.put,sp__,i64_w,i32_w]
            rfl
           exact norm_ (by first|(simp only [putAll,Act.put,List.setIfInBounds_toArray,List.set_cons_zero,List.set_cons_succ];done)|(simp only [putAll,Act.put,List.setIfInBounds_toArray,List.set_cons_zero,List.set_cons_succ];rfl)) (hJ2_8_9_10 (gb344,gb345) _ ⟨(by (with_reducible repeat (first|refine blk_drewN ?_ _|refine blk_drew ?_|refine blk_alloc ?_ _));exact BK344.out),(by (with_reducible repeat (first|refine blk_drewN ?_ _|refine blk_drew ?_|refine blk_alloc ?_ _));exact BK345.out),GW344.out,GE344.out,NB345_344.out,NB344_345.out,GW345.out,GE345.out,(by repeat (first|(with_reducible first|exact HB.out|apply below_alloc|apply pw_below_drewN|apply below_drew1|refine below_set ?_ GE345.out|refine below_set ?_ GE344.out)|exact HB.out))⟩)
         ·skip
          rintro gb344 w16 ⟨h0_,h1_,h2_,h3_⟩
          have n0_:Aside0 (w16.heap[gb344]?=some (.cells #[.int .i64 0,.int .i64 0,.int .i64 0,.int .i64 0] 178 (0,0))):=⟨h0_⟩
          have n1_:Aside0 (w.heap.size≤gb344):=⟨h1_⟩
          have n2_:Aside0 (w.heap.size≤gb344):=⟨h2_⟩
          have n3_:Aside0 (Below w.heap.size w w16):=⟨h3_⟩
          clear HB
          clear h0_ h1_ h2_ h3_
          have BK344:=n0_
          have GW344:=n1_
          have GE344:=n2_
          have HB:=n3_
          clear n0_ n1_ n2_ n3_
          have hHeld:=trivial
          refine norm_ (a':=?_) ?_ ?_
          rotate_left
          ·simp only [putAll,Act.put,List.setIfInBounds_toArray,List.set_cons_zero,List.set_cons_succ]
           rfl
          refine one_ (i:=10) (N:=some 6) #[true,true,true,true,true,true,true,true,true,true,true,false,false] rfl rfl (one_of HT_.out (by kernel_rfl)) (by decide) (fun K hK=>?_)
          refine box_step ?hg (N:=6) ?hd (cs:=#[.int .i64 0,.int .i64 0,.int .i64 0,.int .i64 0]) (t:=178) ?hr ?_;(case hd=>rfl);(case hg=>rfl);(case hr=>first|(go_simp;done)|(go_simp;rfl))
          intro gb345 hg w17 hbox hb
          have n0_:=Aside0.mk (blk_below (g:=gb344) (o:=.cells #[.int .i64 0,.int .i64 0,.int .i64 0,.int .i64 0] 178 (0,0)) (by (with_reducible repeat (first|refine blk_drewN ?_ _|refine blk_drew ?_|refine blk_alloc ?_ _));exact BK344.out) hb)
          have n1_:=Aside0.mk (below_step (by repeat (first|(with_reducible first|exact HB.out|apply below_alloc|apply pw_below_drewN|apply below_drew1|refine below_set ?_ GE344.out)|exact HB.out)) hb)
          have n2_:=Aside0.mk (hbox)
          have n3_:=Aside0.mk ((by rw [hg];exact (below_size (by repeat (first|(with_reducible first|exact HB.out|apply below_alloc|apply pw_below_drewN|apply below_drew1|refine below_set ?_ GE344.out)|exact HB.out))):w.heap.size≤gb345))
          have n4_:=Aside0.mk ((by rw [hg];exact (below_size (by repeat (first|(with_reducible first|exact HB.out|apply below_alloc|apply pw_below_drewN|apply below_drew1|refine below_set ?_ GE344.out)|exact HB.out))):w.heap.size≤gb345))
          have n5_:=Aside0.mk ((by rw [hg];exact Nat.ne_of_lt (blk_lt (g:=gb344) (o:=.cells #[.int .i64 0,.int .i64 0,.int .i64 0,.int .i64 0] 178 (0,0)) (by (with_reducible repeat (first|refine blk_drewN ?_ _|refine blk_drew ?_|refine blk_alloc ?_ _));exact BK344.out)):gb344≠gb345))
          have n6_:=Aside0.mk ((by rw [hg];exact Nat.ne_of_gt (blk_lt (g:=gb344) (o:=.cells #[.int .i64 0,.int .i64 0,.int .i64 0,.int .i64 0] 178 (0,0)) (by (with_reducible repeat (first|refine blk_drewN ?_ _|refine blk_drew ?_|refine blk_alloc ?_ _));exact BK344.out)):gb345≠gb344))
          clear BK344
          clear HB
          have BK344:=n0_
          have HB:=n1_
          have BK345:=n2_
          have GW345:=n3_
          have GE345:=n4_
          have NB344_345:=n5_
          have NB345_344:=n6_
          clear n0_ n1_ n2_ n3_ n4_ n5_ n6_
          clear hb hbox hg
          refine hK.out _ _ trivial (fun hHeld=>?_)
          clear hK K
          refine norm_ (a':=?_) ?_ ?_
          rotate_left
          ·show Act.put _ (some 6) _=_
           simp only [Act.put,sp__,i64_w,i32_w]
           rfl
          exact norm_ (by first|(simp only [putAll,Act.put,List.setIfInBounds_toArray,List.set_cons_zero,List.set_cons_succ];done)|(simp only [putAll,Act.put,List.setIfInBounds_toArray,List.set_cons_zero,List.set_cons_succ];rfl)) (hJ2_8_9_10 (gb344,gb345) _ ⟨(by (with_reducible repeat (first|refine blk_drewN ?_ _|refine blk_drew ?_|refine blk_alloc ?_ _));exact BK344.out),(by (with_reducible repeat (first|refine blk_drewN ?_ _|refine blk_drew ?_|refine blk_alloc ?_ _));exact BK345.out),GW344.out,GE344.out,NB345_344.out,NB344_345.out,GW345.out,GE345.out,(by repeat (first|(with_reducible first|exact HB.out|apply below_alloc|apply pw_below_drewN|apply below_drew1|refine below_set ?_ GE344.out|refine below_set ?_ GE345.out)|exact HB.out))⟩)
        rintro ⟨gb344,gb345⟩ w17 ⟨h0_,h1_,h2_,h3_,h4_,h5_,h6_,h7_,h8_⟩
        have n0_:Aside0 (w17.heap[gb344]?=some (.cells #[.int .i64 0,.int .i64 0,.int .i64 0,.int .i64 0] 178 (0,0))):=⟨h0_⟩
        have n1_:Aside0 (w17.heap[gb345]?=some (.cells #[.int .i64 0,.int .i64 0,.int .i64 0,.int .i64 0] 178 (0,0))):=⟨h1_⟩
        have n2_:Aside0 (w.heap.size≤gb344):=⟨h2_⟩
        have n3_:Aside0 (w.heap.size≤gb344):=⟨h3_⟩
        have n4_:Aside0 (gb345≠gb344):=⟨h4_⟩
        have n5_:Aside0 (gb344≠gb345):=⟨h5_⟩
        have n6_:Aside0 (w.heap.size≤gb345):=⟨h6_⟩
        have n7_:Aside0 (w.heap.size≤gb345):=⟨h7_⟩
        have n8_:Aside0 (Below w.heap.size w w17):=⟨h8_⟩
        clear HB
        clear h0_ h1_ h2_ h3_ h4_ h5_ h6_ h7_ h8_
        have BK344:=n0_
        have BK345:=n1_
        have GW344:=n2_
        have GE344:=n3_
        have NB345_344:=n4_
        have NB344_345:=n5_
        have GW345:=n6_
        have GE345:=n7_
        have HB:=n8_
        clear n0_ n1_ n2_ n3_ n4_ n5_ n6_ n7_ n8_
        have hHeld:=trivial
        refine norm_ (a':=?_) ?_ ?_
        rotate_left
        ·simp only [putAll,Act.put,List.setIfInBounds_toArray,List.set_cons_zero,List.set_cons_succ]
         rfl
        refine one_ (i:=11) (N:=none) #[true,true,true,true,true,true,true,true,true,true,true,true,false] rfl rfl (one_of HT_.out (by kernel_rfl)) (by decide) (fun K hK=>?_)
        have hs18:w17.cell? ⟨gb344,0,none⟩=some (.int .i64 0):=(blk_cell BK344.out 0).trans rfl
        have hfs18:=blk_frozen BK344.out 0
        have hns18_1:=NB345_344.out
        have hms18_1:=NB344_345.out
        have hs19:w17.cell? ⟨gb344,1,none⟩=some (.int .i64 0):=(blk_cell BK344.out 1).trans rfl
        have hfs19:=blk_frozen BK344.out 1
        have hns19_1:=NB345_344.out
        have hms19_1:=NB344_345.out
        have hs20:w17.cell? ⟨gb344,2,none⟩=some (.int .i64 0):=(blk_cell BK344.out 2).trans rfl
        have hfs20:=blk_frozen BK344.out 2
        have hns20_1:=NB345_344.out
        have hms20_1:=NB344_345.out
        have hs21:w17.cell? ⟨gb344,3,none⟩=some (.int .i64 0):=(blk_cell BK344.out 3).trans rfl
        have hfs21:=blk_frozen BK344.out 3
        have hns21_1:=NB345_344.out
        have hms21_1:=NB344_345.out
        refine skip_ (w1:=?_) (by rfl) rfl ?_ ?_
        rotate_left
        ·go_simp
         rfl
        refine hK.out _ _ trivial (fun hHeld=>?_)
        clear hK K
        refine one_ (i:=12) (N:=none) #[true,true,true,true,true,true,true,true,true,true,true,true,true] rfl rfl (one_of HT_.out (by kernel_rfl)) (by decide) (fun K hK=>?_)
        have hs22:w17.cell? ⟨gb345,0,none⟩=some (.int .i64 0):=(blk_cell BK345.out 0).trans rfl
        have hfs22:=blk_frozen BK345.out 0
        have hns22_0:=NB344_345.out
        have hms22_0:=NB345_344.out
        have hs23:w17.cell? ⟨gb345,1,none⟩=some (.int .i64 0):=(blk_cell BK345.out 1).trans rfl
        have hfs23:=blk_frozen BK345.out 1
        have hns23_0:=NB344_345.out
        have hms23_0:=NB345_344.out
        have hs24:w17.cell? ⟨gb345,2,none⟩=some (.int .i64 0):=(blk_cell BK345.out 2).trans rfl
        have hfs24:=blk_frozen BK345.out 2
        have hns24_0:=NB344_345.out
        have hms24_0:=NB345_344.out
        have hs25:w17.cell? ⟨gb345,3,none⟩=some (.int .i64 0):=(blk_cell BK345.out 3).trans rfl
        have hfs25:=blk_frozen BK345.out 3
        have hns25_0:=NB344_345.out
        have hms25_0:=NB345_344.out
        refine skip_ (w1:=?_) (by rfl) rfl ?_ ?_
        rotate_left
        ·go_simp
         rfl
        refine hK.out _ _ trivial (fun hHeld=>?_)
        clear hK K
        refine done_ (done_of HT_.out (by kernel_rfl)) ?_
        go_upto_region 8 with (fail)
        go_cut [46] (fun v46 wc=>∃ (kq:Nat) (x46_10:Bool),v46=.bool x46_10∧Aside0 (plane_Simple.j2 kq l0 (l0.length:Int) x18_2 (l0.length:Int) x18_2 x46_10 t336 t337 t338 t339=some r)∧Aside0 (kq≤k2)∧Aside0 (wc.heap[gb344]?=some (.cells #[.int .i64 t336,.int .i64 t337,.int .i64 t338,.int .i64 t339] 178 (0,0)))∧Aside0 (wc.heap[gb345]?=some (.cells #[.int .i64 t340,.int .i64 t341,.int .i64 t342,.int .i64 t343] 178 (0,0)))∧Aside0 (Below w.heap.size w wc))
        case first =>
         have H:=HC11.out
         clear HC11
         by_cases c26:(t336 == t338 && (t337 == t339))=true
         ·rw [if_pos c26] at H
          have c26b0:(t336 == t338 && (t337 == t339))=true:=c26
          (try (have c26b1:decide (t336=t338 && (t337 == t339))=true:=by simpa using c26))
          (try (have c26b2:(t336 == t338 && (t337 == t339))=true:=by simpa using c26))
          clear c26
          (first|rw [c26b0]|(simp only [i64_w,i32_w];rw [c26b0])|skip)
          have H':=Aside0.mk H
          clear H
          have hnb27:=NB344_345.out
          have hnc27:=NB345_344.out
          have hcz28_0:w17.cell? ⟨gb344,0,none⟩=some (.int .i64 0):=(blk_cell BK344.out 0).trans rfl
          have hcz28_1:w17.cell? ⟨gb344,1,none⟩=some (.int .i64 0):=(blk_cell BK344.out 1).trans rfl
          have hcz28_2:w17.cell? ⟨gb344,2,none⟩=some (.int .i64 0):=(blk_cell BK344.out 2).trans rfl
          have hcz28_3:w17.cell? ⟨gb344,3,none⟩=some (.int .i64 0):=(blk_cell BK344.out 3).trans rfl
          have hfz28_0:=blk_frozen BK344.out 0
          have hfz28_1:=blk_frozen BK344.out 1
          have hfz28_2:=blk_frozen BK344.out 2
          have hfz28_3:=blk_frozen BK344.out 3
          go_wp2
          go_meet
          case rel=>exact ⟨_,(true),(by first|rfl|(simp;done)|(simp [*];done)),H',⟨by have:=HJ1.out;have:=HK2.out;first|omega|exact Nat.le_refl _⟩,⟨by (with_reducible repeat (first|refine blk_drewN ?_ _|refine blk_drew ?_|refine blk_alloc ?_ _));refine blk_far ?_ NB344_345.out _;(with_reducible repeat (first|refine blk_drewN ?_ _|refine blk_drew ?_|refine blk_alloc ?_ _));refine blk_far ?_ NB344_345.out _;(with_reducible repeat (first|refine blk_drewN ?_ _|refine blk_drew ?_|refine blk_alloc ?_ _));refine blk_far ?_ NB344_345.out _;(with_reducible repeat (first|refine blk_drewN ?_ _|refine blk_drew ?_|refine blk_alloc ?_ _));refine blk_far ?_ NB344_345.out _;(with_reducible repeat (first|refine blk_drewN ?_ _|refine blk_drew ?_|refine blk_alloc ?_ _));refine blk_put (cs:=#[.int .i64 t336,.int .i64 t337,.int .i64 t338,.int .i64 0]) ?_ 3 _ rfl;(with_reducible repeat (first|refine blk_drewN ?_ _|refine blk_drew ?_|refine blk_alloc ?_ _));refine blk_put (cs:=#[.int .i64 t336,.int .i64 t337,.int .i64 0,.int .i64 0]) ?_ 2 _ rfl;(with_reducible repeat (first|refine blk_drewN ?_ _|refine blk_drew ?_|refine blk_alloc ?_ _));refine blk_put (cs:=#[.int .i64 t336,.int .i64 0,.int .i64 0,.int .i64 0]) ?_ 1 _ rfl;(with_reducible repeat (first|refine blk_drewN ?_ _|refine blk_drew ?_|refine blk_alloc ?_ _));refine blk_put (cs:=#[.int .i64 0,.int .i64 0,.int .i64 0,.int .i64 0]) ?_ 0 _ rfl;(with_reducible repeat (first|refine blk_drewN ?_ _|refine blk_drew ?_|refine blk_alloc ?_ _));exact BK344.out⟩,⟨by (with_reducible repeat (first|refine blk_drewN ?_ _|refine blk_drew ?_|refine blk_alloc ?_ _));refine blk_put (cs:=#[.int .i64 t340,.int .i64 t341,.int .i64 t342,.int .i64 0]) ?_ 3 _ rfl;(with_reducible repeat (first|refine blk_drewN ?_ _|refine blk_drew ?_|refine blk_alloc ?_ _));refine blk_put (cs:=#[.int .i64 t340,.int .i64 t341,.int .i64 0,.int .i64 0]) ?_ 2 _ rfl;(with_reducible repeat (first|refine blk_drewN ?_ _|refine blk_drew ?_|refine blk_alloc ?_ _));refine blk_put (cs:=#[.int .i64 t340,.int .i64 0,.int .i64 0,.int .i64 0]) ?_ 1 _ rfl;(with_reducible repeat (first|refine blk_drewN ?_ _|refine blk_drew ?_|refine blk_alloc ?_ _));refine blk_put (cs:=#[.int .i64 0,.int .i64 0,.int .i64 0,.int .i64 0]) ?_ 0 _ rfl;(with_reducible repeat (first|refine blk_drewN ?_ _|refine blk_drew ?_|refine blk_alloc ?_ _));refine blk_far ?_ NB345_344.out _;(with_reducible repeat (first|refine blk_drewN ?_ _|refine blk_drew ?_|refine blk_alloc ?_ _));refine blk_far ?_ NB345_344.out _;(with_reducible repeat (first|refine blk_drewN ?_ _|refine blk_drew ?_|refine blk_alloc ?_ _));refine blk_far ?_ NB345_344.out _;(with_reducible repeat (first|refine blk_drewN ?_ _|refine blk_drew ?_|refine blk_alloc ?_ _));refine blk_far ?_ NB345_344.out _;(with_reducible repeat (first|refine blk_drewN ?_ _|refine blk_drew ?_|refine blk_alloc ?_ _));exact BK345.out⟩,⟨by repeat (first|(with_reducible first|exact HB.out|apply below_alloc|apply pw_below_drewN|apply below_drew1|refine below_set ?_ GE344.out|refine below_set ?_ GE345.out)|exact HB.out)⟩⟩
         ·rw [if_neg c26] at H
          have c26b0:(t336 == t338 && (t337 == t339))=false:=by simpa using c26
          (try (have c26b1:decide (t336=t338 && (t337 == t339))=false:=by simpa using c26))
          (try (have c26b2:(t336 == t338 && (t337 == t339))=false:=by simpa using c26))
          (try (have c26b3:¬ (t336=t338 && (t337 == t339)):=by simpa using c26))
          clear c26
          (first|rw [c26b0]|(simp only [i64_w,i32_w];rw [c26b0])|skip)
          replace H:=Option.bind_eq_some_iff.mp H
          obtain ⟨t346,A290,H⟩:=H
          replace H:(if t346=true then (plane_Simple.j2 k2 l0 (l0.length:Int) x18_2 (l0.length:Int) x18_2 true t336 t337 t338 t339) else ((plane_segment_has.f t336 t337 t338 t339 t342 t343).bind fun t347=>(plane_Simple.j2 k2 l0 (l0.length:Int) x18_2 (l0.length:Int) x18_2 t347 t336 t337 t338 t339)))=some r:=H
          have A29:=Aside0.mk A290;(try simp only [Int.toNat_natCast] at A29)
          clear A290
          by_cases c30:t346=true
          ·subst c30
           have H1:(plane_Simple.j2 k2 l0 (l0.length:Int) x18_2 (l0.length:Int) x18_2 true t336 t337 t338 t339)=some r:=by rw [if_pos rfl] at H;exact H
           clear H
           have H:=H1
           clear H1
           have H':=Aside0.mk H
           clear H
           have hnb31:=NB344_345.out
           have hnc31:=NB345_344.out
           have hcz32_0:w17.cell? ⟨gb344,0,none⟩=some (.int .i64 0):=(blk_cell BK344.out 0).trans rfl
           have hcz32_1:w17.cell? ⟨gb344,1,none⟩=some (.int .i64 0):=(blk_cell BK344.out 1).trans rfl
           have hcz32_2:w17.cell? ⟨gb344,2,none⟩=some (.int .i64 0):=(blk_cell BK344.out 2).trans rfl
           have hcz32_3:w17.cell? ⟨gb344,3,none⟩=some (.int .i64 0):=(blk_cell BK344.out 3).trans rfl
           have hfz32_0:=blk_frozen BK344.out 0
           have hfz32_1:=blk_frozen BK344.out 1
           have hfz32_2:=blk_frozen BK344.out 2
           have hfz32_3:=blk_frozen BK344.out 3
           have hcz33_0:w17.cell? ⟨gb345,0,none⟩=some (.int .i64 0):=(blk_cell BK345.out 0).trans rfl
           have hcz33_1:w17.cell? ⟨gb345,1,none⟩=some (.int .i64 0):=(blk_cell BK345.out 1).trans rfl
           have hcz33_2:w17.cell? ⟨gb345,2,none⟩=some (.int .i64 0):=(blk_cell BK345.out 2).trans rfl
           have hcz33_3:w17.cell? ⟨gb345,3,none⟩=some (.int .i64 0):=(blk_cell BK345.out 3).trans rfl
           have hfz33_0:=blk_frozen BK345.out 0
           have hfz33_1:=blk_frozen BK345.out 1
           have hfz33_2:=blk_frozen BK345.out 2
           have hfz33_3:=blk_frozen BK345.out 3
           go_wp2_with (first|(go_at_call 80;(with_reducible refine (plane_segment_has.calls t340 t341 t342 t343 t336 t337 true _ A29.out).mono ?_);rintro e w34 ⟨rfl,hb⟩;have n0_:=Aside0.mk (blk_below (g:=gb344) (o:=.cells #[.int .i64 t336,.int .i64 t337,.int .i64 t338,.int .i64 t339] 178 (0,0)) (by (with_reducible repeat (first|refine blk_drewN ?_ _|refine blk_drew ?_|refine blk_alloc ?_ _));refine blk_far ?_ NB344_345.out _;(with_reducible repeat (first|refine blk_drewN ?_ _|refine blk_drew ?_|refine blk_alloc ?_ _));refine blk_far ?_ NB344_345.out _;(with_reducible repeat (first|refine blk_drewN ?_ _|refine blk_drew ?_|refine blk_alloc ?_ _));refine blk_far ?_ NB344_345.out _;(with_reducible repeat (first|refine blk_drewN ?_ _|refine blk_drew ?_|refine blk_alloc ?_ _));refine blk_far ?_ NB344_345.out _;(with_reducible repeat (first|refine blk_drewN ?_ _|refine blk_drew ?_|refine blk_alloc ?_ _));refine blk_put (cs:=#[.int .i64 t336,.int .i64 t337,.int .i64 t338,.int .i64 0]) ?_ 3 _ rfl;(with_reducible repeat (first|refine blk_drewN ?_ _|refine blk_drew ?_|refine blk_alloc ?_ _));refine blk_put (cs:=#[.int .i64 t336,.int .i64 t337,.int .i64 0,.int .i64 0]) ?_ 2 _ rfl;(with_reducible repeat (first|refine blk_drewN ?_ _|refine blk_drew ?_|refine blk_alloc ?_ _));refine blk_put (cs:=#[.int .i64 t336,.int .i64 0,.int .i64 0,.int .i64 0]) ?_ 1 _ rfl;(with_reducible repeat (first|refine blk_drewN ?_ _|refine blk_drew ?_|refine blk_alloc ?_ _));refine blk_put (cs:=#[.int .i64 0,.int .i64 0,.int .i64 0,.int .i64 0]) ?_ 0 _ rfl;(with_reducible repeat (first|refine blk_drewN ?_ _|refine blk_drew ?_|refine blk_alloc ?_ _));exact BK344.out) hb);have n1_:=Aside0.mk (blk_below (g:=gb345) (o:=.cells #[.int .i64 t340,.int .i64 t341,.int .i64 t342,.int .i64 t343] 178 (0,0)) (by (with_reducible repeat (first|refine blk_drewN ?_ _|refine blk_drew ?_|refine blk_alloc ?_ _));refine blk_put (cs:=#[.int .i64 t340,.int .i64 t341,.int .i64 t342,.int .i64 0]) ?_ 3 _ rfl;(with_reducible repeat (first|refine blk_drewN ?_ _|refine blk_drew ?_|refine blk_alloc ?_ _));refine blk_put (cs:=#[.int .i64 t340,.int .i64 t341,.int .i64 0,.int .i64 0]) ?_ 2 _ rfl;(with_reducible repeat (first|refine blk_drewN ?_ _|refine blk_drew ?_|refine blk_alloc ?_ _));refine blk_put (cs:=#[.int .i64 t340,.int .i64 0,.int .i64 0,.int .i64 0]) ?_ 1 _ rfl;(with_reducible repeat (first|refine blk_drewN ?_ _|refine blk_drew ?_|refine blk_alloc ?_ _));refine blk_put (cs:=#[.int .i64 0,.int .i64 0,.int .i64 0,.int .i64 0]) ?_ 0 _ rfl;(with_reducible repeat (first|refine blk_drewN ?_ _|refine blk_drew ?_|refine blk_alloc ?_ _));refine blk_far ?_ NB345_344.out _;(with_reducible repeat (first|refine blk_drewN ?_ _|refine blk_drew ?_|refine blk_alloc ?_ _));refine blk_far ?_ NB345_344.out _;(with_reducible repeat (first|refine blk_drewN ?_ _|refine blk_drew ?_|refine blk_alloc ?_ _));refine blk_far ?_ NB345_344.out _;(with_reducible repeat (first|refine blk_drewN ?_ _|refine blk_drew ?_|refine blk_alloc ?_ _));refine blk_far ?_ NB345_344.out _;(with_reducible repeat (first|refine blk_drewN ?_ _|refine blk_drew ?_|refine blk_alloc ?_ _));exact BK345.out) hb);have n2_:=Aside0.mk (below_step (by repeat (first|(with_reducible first|exact HB.out|apply below_alloc|apply pw_below_drewN|apply below_drew1|refine below_set ?_ GE344.out|refine below_set ?_ GE345.out)|exact HB.out)) hb);clear BK344;clear BK345;clear HB;have BK344:=n0_;have BK345:=n1_;have HB:=n2_;clear n0_ n1_ n2_;(try clear hb);(try clear hb2);(try clear hk);(try clear hi)))
           go_meet
           case rel=>exact ⟨_,(true),(by first|rfl|(simp;done)|(simp [*];done)),H',⟨by have:=HJ1.out;have:=HK2.out;first|omega|exact Nat.le_refl _⟩,⟨by (with_reducible repeat (first|refine blk_drewN ?_ _|refine blk_drew ?_|refine blk_alloc ?_ _));exact BK344.out⟩,⟨by (with_reducible repeat (first|refine blk_drewN ?_ _|refine blk_drew ?_|refine blk_alloc ?_ _));exact BK345.out⟩,⟨by repeat (first|(with_reducible first|exact HB.out|apply below_alloc|apply pw_below_drewN|apply below_drew1|refine below_set ?_ GE344.out|refine below_set ?_ GE345.out)|exact HB.out)⟩⟩
          ·replace c30:=Bool.eq_false_iff.mpr c30
           subst c30
           have H1:((plane_segment_has.f t336 t337 t338 t339 t342 t343).bind fun t347=>(plane_Simple.j2 k2 l0 (l0.length:Int) x18_2 (l0.length:Int) x18_2 t347 t336 t337 t338 t339))=some r:=by rw [if_neg (show ¬ (false=true) by decide)] at H;exact H
           clear H
           have H:=H1
           clear H1
           replace H:=Option.bind_eq_some_iff.mp H
           obtain ⟨t347,A350,H⟩:=H
           replace H:(plane_Simple.j2 k2 l0 (l0.length:Int) x18_2 (l0.length:Int) x18_2 t347 t336 t337 t338 t339)=some r:=H
           have A35:=Aside0.mk A350;(try simp only [Int.toNat_natCast] at A35)
           clear A350
           have H':=Aside0.mk H
           clear H
           have hnb36:=NB344_345.out
           have hnc36:=NB345_344.out
           have hcz37_0:w17.cell? ⟨gb344,0,none⟩=some (.int .i64 0):=(blk_cell BK344.out 0).trans rfl
           have hcz37_1:w17.cell? ⟨gb344,1,none⟩=some (.int .i64 0):=(blk_cell BK344.out 1).trans rfl
           have hcz37_2:w17.cell? ⟨gb344,2,none⟩=some (.int .i64 0):=(blk_cell BK344.out 2).trans rfl
           have hcz37_3:w17.cell? ⟨gb344,3,none⟩=some (.int .i64 0):=(blk_cell BK344.out 3).trans rfl
           have hfz37_0:=blk_frozen BK344.out 0
           have hfz37_1:=blk_frozen BK344.out 1
           have hfz37_2:=blk_frozen BK344.out 2
           have hfz37_3:=blk_frozen BK344.out 3
           have hcz38_0:w17.cell? ⟨gb345,0,none⟩=some (.int .i64 0):=(blk_cell BK345.out 0).trans rfl
           have hcz38_1:w17.cell? ⟨gb345,1,none⟩=some (.int .i64 0):=(blk_cell BK345.out 1).trans rfl
           have hcz38_2:w17.cell? ⟨gb345,2,none⟩=some (.int .i64 0):=(blk_cell BK345.out 2).trans rfl
           have hcz38_3:w17.cell? ⟨gb345,3,none⟩=some (.int .i64 0):=(blk_cell BK345.out 3).trans rfl
           have hfz38_0:=blk_frozen BK345.out 0
           have hfz38_1:=blk_frozen BK345.out 1
           have hfz38_2:=blk_frozen BK345.out 2
           have hfz38_3:=blk_frozen BK345.out 3
           go_wp2_with (first|(go_at_call 80;(with_reducible refine (plane_segment_has.calls t340 t341 t342 t343 t336 t337 false _ A29.out).mono ?_);rintro e w39 ⟨rfl,hb⟩;have n0_:=Aside0.mk (blk_below (g:=gb344) (o:=.cells #[.int .i64 t336,.int .i64 t337,.int .i64 t338,.int .i64 t339] 178 (0,0)) (by (with_reducible repeat (first|refine blk_drewN ?_ _|refine blk_drew ?_|refine blk_alloc ?_ _));refine blk_far ?_ NB344_345.out _;(with_reducible repeat (first|refine blk_drewN ?_ _|refine blk_drew ?_|refine blk_alloc ?_ _));refine blk_far ?_ NB344_345.out _;(with_reducible repeat (first|refine blk_drewN ?_ _|refine blk_drew ?_|refine blk_alloc ?_ _));refine blk_far ?_ NB344_345.out _;(with_reducible repeat (first|refine blk_drewN ?_ _|refine blk_drew ?_|refine blk_alloc ?_ _));refine blk_far ?_ NB344_345.out _;(with_reducible repeat (first|refine blk_drewN ?_ _|refine blk_drew ?_|refine blk_alloc ?_ _));refine blk_put (cs:=#[.int .i64 t336,.int .i64 t337,.int .i64 t338,.int .i64 0]) ?_ 3 _ rfl;(with_reducible repeat (first|refine blk_drewN ?_ _|refine blk_drew ?_|refine blk_alloc ?_ _));refine blk_put (cs:=#[.int .i64 t336,.int .i64 t337,.int .i64 0,.int .i64 0]) ?_ 2 _ rfl;(with_reducible repeat (first|refine blk_drewN ?_ _|refine blk_drew ?_|refine blk_alloc ?_ _));refine blk_put (cs:=#[.int .i64 t336,.int .i64 0,.int .i64 0,.int .i64 0]) ?_ 1 _ rfl;(with_reducible repeat (first|refine blk_drewN ?_ _|refine blk_drew ?_|refine blk_alloc ?_ _));refine blk_put (cs:=#[.int .i64 0,.int .i64 0,.int .i64 0,.int .i64 0]) ?_ 0 _ rfl;(with_reducible repeat (first|refine blk_drewN ?_ _|refine blk_drew ?_|refine blk_alloc ?_ _));exact BK344.out) hb);have n1_:=Aside0.mk (blk_below (g:=gb345) (o:=.cells #[.int .i64 t340,.int .i64 t341,.int .i64 t342,.int .i64 t343] 178 (0,0)) (by (with_reducible repeat (first|refine blk_drewN ?_ _|refine blk_drew ?_|refine blk_alloc ?_ _));refine blk_put (cs:=#[.int .i64 t340,.int .i64 t341,.int .i64 t342,.int .i64 0]) ?_ 3 _ rfl;(with_reducible repeat (first|refine blk_drewN ?_ _|refine blk_drew ?_|refine blk_alloc ?_ _));refine blk_put (cs:=#[.int .i64 t340,.int .i64 t341,.int .i64 0,.int .i64 0]) ?_ 2 _ rfl;(with_reducible repeat (first|refine blk_drewN ?_ _|refine blk_drew ?_|refine blk_alloc ?_ _));refine blk_put (cs:=#[.int .i64 t340,.int .i64 0,.int .i64 0,.int .i64 0]) ?_ 1 _ rfl;(with_reducible repeat (first|refine blk_drewN ?_ _|refine blk_drew ?_|refine blk_alloc ?_ _));refine blk_put (cs:=#[.int .i64 0,.int .i64 0,.int .i64 0,.int .i64 0]) ?_ 0 _ rfl;(with_reducible repeat (first|refine blk_drewN ?_ _|refine blk_drew ?_|refine blk_alloc ?_ _));refine blk_far ?_ NB345_344.out _;(with_reducible repeat (first|refine blk_drewN ?_ _|refine blk_drew ?_|refine blk_alloc ?_ _));refine blk_far ?_ NB345_344.out _;(with_reducible repeat (first|refine blk_drewN ?_ _|refine blk_drew ?_|refine blk_alloc ?_ _));refine blk_far ?_ NB345_344.out _;(with_reducible repeat (first|refine blk_drewN ?_ _|refine blk_drew ?_|refine blk_alloc ?_ _));refine blk_far ?_ NB345_344.out _;(with_reducible repeat (first|refine blk_drewN ?_ _|refine blk_drew ?_|refine blk_alloc ?_ _));exact BK345.out) hb);have n2_:=Aside0.mk (below_step (by repeat (first|(with_reducible first|exact HB.out|apply below_alloc|apply pw_below_drewN|apply below_drew1|refine below_set ?_ GE344.out|refine below_set ?_ GE345.out)|exact HB.out)) hb);clear BK344;clear BK345;clear HB;have BK344:=n0_;have BK345:=n1_;have HB:=n2_;clear n0_ n1_ n2_;(try clear hb);(try clear hb2);(try clear hk);(try clear hi);have hcz40_0:w39.cell? ⟨gb344,0,none⟩=some (.int .i64 t336):=(blk_cell BK344.out 0).trans rfl;have hcz40_1:w39.cell? ⟨gb344,1,none⟩=some (.int .i64 t337):=(blk_cell BK344.out 1).trans rfl;have hcz40_2:w39.cell? ⟨gb344,2,none⟩=some (.int .i64 t338):=(blk_cell BK344.out 2).trans rfl;have hcz40_3:w39.cell? ⟨gb344,3,none⟩=some (.int .i64 t339):=(blk_cell BK344.out 3).trans rfl;have hfz40_0:=blk_frozen BK344.out 0;have hfz40_1:=blk_frozen BK344.out 1;have hfz40_2:=blk_frozen BK344.out 2;have hfz40_3:=blk_frozen BK344.out 3;have hcz41_0:w39.cell? ⟨gb345,0,none⟩=some (.int .i64 t340):=(blk_cell BK345.out 0).trans rfl;have hcz41_1:w39.cell? ⟨gb345,1,none⟩=some (.int .i64 t341):=(blk_cell BK345.out 1).trans rfl;have hcz41_2:w39.cell? ⟨gb345,2,none⟩=some (.int .i64 t342):=(blk_cell BK345.out 2).trans rfl;have hcz41_3:w39.cell? ⟨gb345,3,none⟩=some (.int .i64 t343):=(blk_cell BK345.out 3).trans rfl;have hfz41_0:=blk_frozen BK345.out 0;have hfz41_1:=blk_frozen BK345.out 1;have hfz41_2:=blk_frozen BK345.out 2;have hfz41_3:=blk_frozen BK345.out 3)|(go_at_call 80;(with_reducible refine (plane_segment_has.calls t336 t337 t338 t339 t342 t343 t347 _ A35.out).mono ?_);rintro e w42 ⟨rfl,hb⟩;have n0_:=Aside0.mk (blk_below (g:=gb344) (o:=.cells #[.int .i64 t336,.int .i64 t337,.int .i64 t338,.int .i64 t339] 178 (0,0)) (by (with_reducible repeat (first|refine blk_drewN ?_ _|refine blk_drew ?_|refine blk_alloc ?_ _));exact BK344.out) hb);have n1_:=Aside0.mk (blk_below (g:=gb345) (o:=.cells #[.int .i64 t340,.int .i64 t341,.int .i64 t342,.int .i64 t343] 178 (0,0)) (by (with_reducible repeat (first|refine blk_drewN ?_ _|refine blk_drew ?_|refine blk_alloc ?_ _));exact BK345.out) hb);have n2_:=Aside0.mk (below_step (by repeat (first|(with_reducible first|exact HB.out|apply below_alloc|apply pw_below_drewN|apply below_drew1|refine below_set ?_ GE344.out|refine below_set ?_ GE345.out)|exact HB.out)) hb);clear BK344;clear BK345;clear HB;have BK344:=n0_;have BK345:=n1_;have HB:=n2_;clear n0_ n1_ n2_;(try clear hb);(try clear hb2);(try clear hk);(try clear hi)))
           go_meet
           case rel=>exact ⟨_,(t347),(by first|rfl|(simp;done)|(simp [*];done)),H',⟨by have:=HJ1.out;have:=HK2.out;first|omega|exact Nat.le_refl _⟩,⟨by (with_reducible repeat (first|refine blk_drewN ?_ _|refine blk_drew ?_|refine blk_alloc ?_ _));exact BK344.out⟩,⟨by (with_reducible repeat (first|refine blk_drewN ?_ _|refine blk_drew ?_|refine blk_alloc ?_ _));exact BK345.out⟩,⟨by repeat (first|(with_reducible first|exact HB.out|apply below_alloc|apply pw_below_drewN|apply below_drew1|refine below_set ?_ GE344.out|refine below_set ?_ GE345.out)|exact HB.out)⟩⟩
        case rest =>
         clear HC11
         try clear c2
         try clear p2
         try clear c3
         try clear p6
         try clear c7
         try clear c26
         try clear c26b0
         try clear c26b1
         try clear c26b2
         try clear c27
         try clear c30
         try clear c31
         try clear c36
         try clear hcz28_0
         try clear hcz28_1
         try clear hcz28_2
         try clear hcz28_3
         try clear hcz32_0
         try clear hcz32_1
         try clear hcz32_2
         try clear hcz32_3
         try clear hcz33_0
         try clear hcz33_1
         try clear hcz33_2
         try clear hcz33_3
         try clear hcz37_0
         try clear hcz37_1
         try clear hcz37_2
         try clear hcz37_3
         try clear hcz38_0
         try clear hcz38_1
         try clear hcz38_2
         try clear hcz38_3
         try clear hcz40_0
         try clear hcz40_1
         try clear hcz40_2
         try clear hcz40_3
         try clear hcz41_0
         try clear hcz41_1
         try clear hcz41_2
         try clear hcz41_3
         try clear hfz28_0
         try clear hfz28_1
         try clear hfz28_2
         try clear hfz28_3
         try clear hfz32_0
         try clear hfz32_1
         try clear hfz32_2
         try clear hfz32_3
         try clear hfz33_0
         try clear hfz33_1
         try clear hfz33_2
         try clear hfz33_3
         try clear hfz37_0
         try clear hfz37_1
         try clear hfz37_2
         try clear hfz37_3
         try clear hfz38_0
         try clear hfz38_1
         try clear hfz38_2
         try clear hfz38_3
         try clear hfz40_0
         try clear hfz40_1
         try clear hfz40_2
         try clear hfz40_3
         try clear hfz41_0
         try clear hfz41_1
         try clear hfz41_2
         try clear hfz41_3
         obtain ⟨kq,x46_10,rfl,HA,HJ10,BK344,BK345,HB⟩:=hcut
         cases kq with
         | zero=>exact absurd HA.out (by simp [plane_Simple.j2])
         | succ kj10 =>
          have H:=HA.out
          clear HA
          simp only [plane_Simple.j2] at H
          by_cases c43:x46_10=true
          ·subst c43
           have H1:(some false)=some r:=by rw [if_pos rfl] at H;exact H
           clear H
           have H:=H1
           clear H1
           obtain rfl:=Option.some.inj H
           go_wp2
           go_ret
           exact ⟨by first|rfl|(simp [errW_none,errW_some] <;> rfl)|(simp [*,errW_none,errW_some] <;> rfl),by repeat (first|(with_reducible first|exact HB.out|apply below_alloc|apply pw_below_drewN|apply below_drew1|refine below_set ?_ GE344.out|refine below_set ?_ GE345.out)|exact HB.out)⟩
          ·replace c43:=Bool.eq_false_iff.mpr c43
           subst c43
           have H1:(plane_Simple.l1 kj10 l0 (l0.length:Int) x18_2 (wrap64 (x18_2+2)) (l0.length:Int) x18_2 t336 t337 t338 t339)=some r:=by rw [if_neg (show ¬ (false=true) by decide)] at H;exact H
           clear H
           have H:=H1
           clear H1
           have H':=Aside0.mk H
           clear H
           go_wp2
           go_loopg [7] kj10 (fun kq v7 w'=>∃ (x7_4:Int),v7=.int .i64 x7_4∧Aside0 (plane_Simple.l1 kq l0 (l0.length:Int) x18_2 x7_4 (l0.length:Int) x18_2 t336 t337 t338 t339=some r)∧Aside0 (kq≤kj10)∧Aside0 (w'.heap[gb344]?=some (.cells #[.int .i64 t336,.int .i64 t337,.int .i64 t338,.int .i64 t339] 178 (0,0)))∧Aside0 (w'.heap[gb345]?=some (.cells #[.int .i64 t340,.int .i64 t341,.int .i64 t342,.int .i64 t343] 178 (0,0)))∧Aside0 (Below w.heap.size w w'))
           case atStart=>exact ⟨(wrap64 (x18_2+2)),(by first|rfl|(simp;done)|(simp [*];done)),H',⟨Nat.le_refl _⟩,⟨by (with_reducible repeat (first|refine blk_drewN ?_ _|refine blk_drew ?_|refine blk_alloc ?_ _));exact BK344.out⟩,⟨by (with_reducible repeat (first|refine blk_drewN ?_ _|refine blk_drew ?_|refine blk_alloc ?_ _));exact BK345.out⟩,⟨by repeat (first|(with_reducible first|exact HB.out|apply below_alloc|apply pw_below_drewN|apply below_drew1|refine below_set ?_ GE344.out|refine below_set ?_ GE345.out)|exact HB.out)⟩⟩
           case round =>
            clear H'
            try clear c2
            try clear p2
            try clear c3
            try clear c4
            try clear p6
            try clear c7
            try clear c26
            try clear c26b0
            try clear c26b1
            try clear c26b2
            try clear c27
            try clear c30
            try clear c31
            try clear c36
            try clear c43
            try clear hcz28_0
            try clear hcz28_1
            try clear hcz28_2
            try clear hcz28_3
            try clear hcz32_0
            try clear hcz32_1
            try clear hcz32_2
            try clear hcz32_3
            try clear hcz33_0
            try clear hcz33_1
            try clear hcz33_2
            try clear hcz33_3
            try clear hcz37_0
            try clear hcz37_1
            try clear hcz37_2
            try clear hcz37_3
            try clear hcz38_0
            try clear hcz38_1
            try clear hcz38_2
            try clear hcz38_3
            try clear hcz40_0
            try clear hcz40_1
            try clear hcz40_2
            try clear hcz40_3
            try clear hcz41_0
            try clear hcz41_1
            try clear hcz41_2
            try clear hcz41_3
            try clear hfz28_0
            try clear hfz28_1
            try clear hfz28_2
            try clear hfz28_3
            try clear hfz32_0
            try clear hfz32_1
            try clear hfz32_2
            try clear hfz32_3
            try clear hfz33_0
            try clear hfz33_1
            try clear hfz33_2
            try clear hfz33_3
            try clear hfz37_0
            try clear hfz37_1
            try clear hfz37_2
            try clear hfz37_3
            try clear hfz38_0
            try clear hfz38_1
            try clear hfz38_2
            try clear hfz38_3
            try clear hfz40_0
            try clear hfz40_1
            try clear hfz40_2
            try clear hfz40_3
            try clear hfz41_0
            try clear hfz41_1
            try clear hfz41_2
            try clear hfz41_3
            try clear p2
            try clear p6
            obtain ⟨x7_4,rfl,HA,HK4,BK344,BK345,HB⟩:=hrel
            cases gk with
            | zero=>exact absurd HA.out (by simp [plane_Simple.l1])
            | succ k4 =>
             have H:=HA.out
             clear HA
             simp only [plane_Simple.l1] at H
             by_cases c44:x7_4<(l0.length:Int)
             ·rw [if_pos c44] at H
              have c44b0:decide (x7_4<(l0.length:Int))=true:=decide_eq_true c44
              clear c44
              by_cases c45:(l0.length:Int)=0
              ·rw [if_pos c45] at H
               exact absurd H (by simp)
              ·rw [if_neg c45] at H
               have c45b0:((l0.length:Int) == 0)=false:=beq_eq_false_iff_ne.mpr c45
               have c45b1:((l0.length:Int) != 0)=true:=bne_iff_ne.mpr c45
               have c45b2:¬ (l0=[]):=fun h_=>c45 (by rw [h_];rfl)
               by_cases c46:(Int.tmod (wrap64 (x7_4+1)) (l0.length:Int))=x18_2
               ·rw [if_pos c46] at H
                have c46b0:((Int.tmod (wrap64 (x7_4+1)) (l0.length:Int)) == x18_2)=true:=beq_iff_eq.mpr c46
                have c46b1:((Int.tmod (wrap64 (x7_4+1)) (l0.length:Int)) != x18_2)=false:=bne_eq_false_iff_eq.mpr c46
                clear c46
                have H':=Aside0.mk H
                clear H
                try go_wp2
                have n0_:=Aside0.mk (blk_drew BK344.out)
                have n1_:=Aside0.mk (blk_drew BK345.out)
                have n2_:=Aside0.mk (below_drew1 HB.out)
                clear BK344
                clear BK345
                clear HB
                have BK344:=n0_
                have BK345:=n1_
                have HB:=n2_
                clear n0_ n1_ n2_
                refine start_ (n:=13) (S:=fun w'=>True) (ds:=[]) #[false,false,false,false,false,false,false,false,false,false,false,false,false] (by kernel_rfl) rfl rfl trivial (fun hHeld=>?_);refine with_tabW plane_Simple.tab13 plane_Simple.bits13 (fun HT_ HW_=>?_)
                generalize wr.drew=w47 at BK344 BK345 HB hHeld ⊢
                refine pure_ (i:=0) (N:=some 54) (v:=?_) (a':=?_) #[true,false,false,false,false,false,false,false,false,false,false,false,false] rfl rfl (any_of HT_.out (by kernel_rfl)) (fun _ _ _ h=>h) (Or.inl ⟨by rfl,?_⟩) ?_ ?_
                rotate_left
                ·intro w'
                 go_simp
                 with_reducible rfl
                rotate_left
                ·simp only [Act.put,sp__,i64_w,i32_w]
                 rfl
                refine pure_ (i:=1) (N:=some 55) (v:=?_) (a':=?_) #[true,true,false,false,false,false,false,false,false,false,false,false,false] rfl rfl (any_of HT_.out (by kernel_rfl)) (fun _ _ _ h=>h) (Or.inl ⟨by rfl,?_⟩) ?_ ?_
                rotate_left
                ·intro w'
                 go_simp
                 with_reducible rfl
                rotate_left
                ·simp only [Act.put,sp__,i64_w,i32_w]
                 rfl
                refine pure_ (i:=2) (N:=some 56) (v:=?_) (a':=?_) #[true,true,true,false,false,false,false,false,false,false,false,false,false] rfl rfl (any_of HT_.out (by kernel_rfl)) (fun _ _ _ h=>h) (Or.inl ⟨by rfl,?_⟩) ?_ ?_
                rotate_left
                ·intro w'
                 go_simp
                 with_reducible rfl
                rotate_left
                ·simp only [Act.put,sp__,i64_w,i32_w]
                 rfl
                refine pure_ (i:=3) (N:=some 57) (v:=?_) (a':=?_) #[true,true,true,true,false,false,false,false,false,false,false,false,false] rfl rfl (any_of HT_.out (by kernel_rfl)) (fun _ _ _ h=>h) (Or.inl ⟨by rfl,?_⟩) ?_ ?_
                rotate_left
                ·intro w'
                 go_simp
                 with_reducible rfl
                rotate_left
                ·simp only [Act.put,sp__,i64_w,i32_w]
                 rfl
                refine pure_ (i:=4) (N:=some 58) (v:=?_) (a':=?_) #[true,true,true,true,true,false,false,false,false,false,false,false,false] rfl rfl (any_of HT_.out (by kernel_rfl)) (fun _ _ _ h=>h) (Or.inl ⟨by rfl,?_⟩) ?_ ?_
                rotate_left
                ·intro w'
                 go_simp
                 with_reducible rfl
                rotate_left
                ·simp only [Act.put,sp__,i64_w,i32_w]
                 rfl
                refine pure_ (i:=5) (N:=some 59) (v:=?_) (a':=?_) #[true,true,true,true,true,true,false,false,false,false,false,false,false] rfl rfl (any_of HT_.out (by kernel_rfl)) (fun _ _ _ h=>h) (Or.inl ⟨by rfl,?_⟩) ?_ ?_
                rotate_left
                ·intro w'
                 go_simp
                 with_reducible rfl
                rotate_left
                ·simp only [Act.put,sp__,i64_w,i32_w]
                 rfl
                refine pure_ (i:=6) (N:=some 60) (v:=?_) (a':=?_) #[true,true,true,true,true,true,true,false,false,false,false,false,false] rfl rfl (any_of HT_.out (by kernel_rfl)) (fun _ _ _ h=>h) (Or.inl ⟨by rfl,?_⟩) ?_ ?_
                rotate_left
                ·intro w'
                 go_simp
                 with_reducible rfl
                rotate_left
                ·simp only [Act.put,sp__,i64_w,i32_w]
                 rfl
                refine pure_ (i:=7) (N:=some 61) (v:=undef) (a':=?_) #[true,true,true,true,true,true,true,true,false,false,false,false,false] rfl rfl (any_of HT_.out (by kernel_rfl)) (fun _ _ _ h=>h) (Or.inr ⟨by rfl,rfl⟩) ?_ ?_
                rotate_left
                ·simp only [Act.put,sp__,i64_w,i32_w]
                 rfl
                refine pure_ (i:=8) (N:=some 62) (v:=undef) (a':=?_) #[true,true,true,true,true,true,true,true,true,false,false,false,false] rfl rfl (any_of HT_.out (by kernel_rfl)) (fun _ _ _ h=>h) (Or.inr ⟨by rfl,rfl⟩) ?_ ?_
                rotate_left
                ·simp only [Act.put,sp__,i64_w,i32_w]
                 rfl
                refine pure_ (i:=9) (N:=some 63) (v:=undef) (a':=?_) #[true,true,true,true,true,true,true,true,true,true,false,false,false] rfl rfl (any_of HT_.out (by kernel_rfl)) (fun _ _ _ h=>h) (Or.inr ⟨by rfl,rfl⟩) ?_ ?_
                rotate_left
                ·simp only [Act.put,sp__,i64_w,i32_w]
                 rfl
                refine pure_ (i:=10) (N:=some 64) (v:=undef) (a':=?_) #[true,true,true,true,true,true,true,true,true,true,true,false,false] rfl rfl (any_of HT_.out (by kernel_rfl)) (fun _ _ _ h=>h) (Or.inr ⟨by rfl,rfl⟩) ?_ ?_
                rotate_left
                ·simp only [Act.put,sp__,i64_w,i32_w]
                 rfl
                refine pure_ (i:=11) (N:=some 65) (v:=undef) (a':=?_) #[true,true,true,true,true,true,true,true,true,true,true,true,false] rfl rfl (any_of HT_.out (by kernel_rfl)) (fun _ _ _ h=>h) (Or.inr ⟨by rfl,rfl⟩) ?_ ?_
                rotate_left
                ·simp only [Act.put,sp__,i64_w,i32_w]
                 rfl
                refine pure_ (i:=12) (N:=some 66) (v:=?_) (a':=?_) #[true,true,true,true,true,true,true,true,true,true,true,true,true] rfl rfl (any_of HT_.out (by kernel_rfl)) (fun _ _ _ h=>h) (Or.inl ⟨by rfl,?_⟩) ?_ ?_
                rotate_left
                ·intro w'
                 go_simp
                 with_reducible rfl
                rotate_left
                ·simp only [Act.put,sp__,i64_w,i32_w]
                 rfl
                refine done_ (done_of HT_.out (by kernel_rfl)) ?_
                try go_wp2
                go_roundg k4
                case measure=>have:=HJ1.out;have:=HK2.out;have:=HJ10.out;have:=HK4.out;omega
                case rel=>exact ⟨(wrap64 (x7_4+1)),(by first|rfl|(simp;done)|(simp [*];done)),H',⟨by have:=HJ1.out;have:=HK2.out;have:=HJ10.out;have:=HK4.out;omega⟩,⟨by (with_reducible repeat (first|refine blk_drewN ?_ _|refine blk_drew ?_|refine blk_alloc ?_ _));exact BK344.out⟩,⟨by (with_reducible repeat (first|refine blk_drewN ?_ _|refine blk_drew ?_|refine blk_alloc ?_ _));exact BK345.out⟩,⟨by repeat (first|(with_reducible first|exact HB.out|apply below_alloc|apply pw_below_drewN|apply below_drew1|refine below_set ?_ GE344.out|refine below_set ?_ GE345.out)|exact HB.out)⟩⟩
               ·rw [if_neg c46] at H
                have c46b0:((Int.tmod (wrap64 (x7_4+1)) (l0.length:Int)) == x18_2)=false:=beq_eq_false_iff_ne.mpr c46
                have c46b1:((Int.tmod (wrap64 (x7_4+1)) (l0.length:Int)) != x18_2)=true:=bne_iff_ne.mpr c46
                replace H:=Option.bind_eq_some_iff.mp H
                obtain ⟨⟨t348,t349,t350,t351⟩,A480,H⟩:=H
                replace H:((plane_segment_meets.f k4 t336 t337 t338 t339 t348 t349 t350 t351).bind fun t352=>(if t352=true then (some false) else (plane_Simple.l1 k4 l0 (l0.length:Int) x18_2 (wrap64 (x7_4+1)) (l0.length:Int) x18_2 t336 t337 t338 t339)))=some r:=H
                have A48:=Aside0.mk A480;(try simp only [Int.toNat_natCast] at A48)
                clear A480
                replace H:=Option.bind_eq_some_iff.mp H
                obtain ⟨t352,A490,H⟩:=H
                replace H:(if t352=true then (some false) else (plane_Simple.l1 k4 l0 (l0.length:Int) x18_2 (wrap64 (x7_4+1)) (l0.length:Int) x18_2 t336 t337 t338 t339))=some r:=H
                have A49:=Aside0.mk A490;(try simp only [Int.toNat_natCast] at A49)
                clear A490
                by_cases c50:t352=true
                ·subst c50
                 have H1:(some false)=some r:=by rw [if_pos rfl] at H;exact H
                 clear H
                 have H:=H1
                 clear H1
                 obtain rfl:=Option.some.inj H
                 try go_wp2
                 have n0_:=Aside0.mk (blk_drew BK344.out)
                 have n1_:=Aside0.mk (blk_drew BK345.out)
                 have n2_:=Aside0.mk (below_drew1 HB.out)
                 clear BK344
                 clear BK345
                 clear HB
                 have BK344:=n0_
                 have BK345:=n1_
                 have HB:=n2_
                 clear n0_ n1_ n2_
                 refine start_ (n:=13) (S:=fun w'=>w'.cell? ⟨gb344,0,none⟩=some (.int .i64 t336)∧w'.cell? ⟨gb344,1,none⟩=some (.int .i64 t337)∧w'.cell? ⟨gb344,2,none⟩=some (.int .i64 t338)∧w'.cell? ⟨gb344,3,none⟩=some (.int .i64 t339)) (ds:=[]) #[false,false,false,false,false,false,false,false,false,false,false,false,false] (by kernel_rfl) rfl rfl ⟨(blk_cell BK344.out 0).trans rfl,(blk_cell BK344.out 1).trans rfl,(blk_cell BK344.out 2).trans rfl,(blk_cell BK344.out 3).trans rfl⟩ (fun hHeld=>?_);refine with_tabW plane_Simple.tab13 plane_Simple.bits13 (fun HT_ HW_=>?_)
                 generalize wr.drew=w51 at BK344 BK345 HB hHeld ⊢
                 refine pure_ (i:=0) (N:=some 54) (v:=?_) (a':=?_) #[true,false,false,false,false,false,false,false,false,false,false,false,false] rfl rfl (any_of HT_.out (by kernel_rfl)) (fun _ _ _ h=>h) (Or.inl ⟨by rfl,?_⟩) ?_ ?_
                 rotate_left
                 ·intro w'
                  go_simp
                  with_reducible rfl
                 rotate_left
                 ·simp only [Act.put,sp__,i64_w,i32_w]
                  rfl
                 refine pure_ (i:=1) (N:=some 55) (v:=?_) (a':=?_) #[true,true,false,false,false,false,false,false,false,false,false,false,false] rfl rfl (any_of HT_.out (by kernel_rfl)) (fun _ _ _ h=>h) (Or.inl ⟨by rfl,?_⟩) ?_ ?_
                 rotate_left
                 ·intro w'
                  go_simp
                  with_reducible rfl
                 rotate_left
                 ·simp only [Act.put,sp__,i64_w,i32_w]
                  rfl
                 refine pure_ (i:=2) (N:=some 56) (v:=?_) (a':=?_) #[true,true,true,false,false,false,false,false,false,false,false,false,false] rfl rfl (any_of HT_.out (by kernel_rfl)) (fun _ _ _ h=>h) (Or.inl ⟨by rfl,?_⟩) ?_ ?_
                 rotate_left
                 ·intro w'
                  go_simp
                  with_reducible rfl
                 rotate_left
                 ·simp only [Act.put,sp__,i64_w,i32_w]
                  rfl
                 refine pure_ (i:=3) (N:=some 57) (v:=?_) (a':=?_) #[true,true,true,true,false,false,false,false,false,false,false,false,false] rfl rfl (any_of HT_.out (by kernel_rfl)) (fun _ _ _ h=>h) (Or.inl ⟨by rfl,?_⟩) ?_ ?_
                 rotate_left
                 ·intro w'
                  go_simp
                  with_reducible rfl
                 rotate_left
                 ·simp only [Act.put,sp__,i64_w,i32_w]
                  rfl
                 refine pure_ (i:=4) (N:=some 58) (v:=?_) (a':=?_) #[true,true,true,true,true,false,false,false,false,false,false,false,false] rfl rfl (any_of HT_.out (by kernel_rfl)) (fun _ _ _ h=>h) (Or.inl ⟨by rfl,?_⟩) ?_ ?_
                 rotate_left
                 ·intro w'
                  go_simp
                  with_reducible rfl
                 rotate_left
                 ·simp only [Act.put,sp__,i64_w,i32_w]
                  rfl
                 refine pure_ (i:=5) (N:=some 59) (v:=?_) (a':=?_) #[true,true,true,true,true,true,false,false,false,false,false,false,false] rfl rfl (any_of HT_.out (by kernel_rfl)) (fun _ _ _ h=>h) (Or.inl ⟨by rfl,?_⟩) ?_ ?_
                 rotate_left
                 ·intro w'
                  go_simp
                  with_reducible rfl
                 rotate_left
                 ·simp only [Act.put,sp__,i64_w,i32_w]
                  rfl
                 refine pure_ (i:=6) (N:=some 60) (v:=?_) (a':=?_) #[true,true,true,true,true,true,true,false,false,false,false,false,false] rfl rfl (any_of HT_.out (by kernel_rfl)) (fun _ _ _ h=>h) (Or.inl ⟨by rfl,?_⟩) ?_ ?_
                 rotate_left
                 ·intro w'
                  go_simp
                  with_reducible rfl
                 rotate_left
                 ·simp only [Act.put,sp__,i64_w,i32_w]
                  rfl
                 refine pure_ (i:=8) (N:=some 62) (v:=?_) (a':=?_) #[true,true,true,true,true,true,true,false,true,false,false,false,false] rfl rfl (any_of HT_.out (by kernel_rfl)) (fun _ _ _ h=>h) (Or.inl ⟨by rfl,?_⟩) ?_ ?_
                 rotate_left
                 ·intro w'
                  go_simp
                  with_reducible rfl
                 rotate_left
                 ·simp only [Act.put,sp__,i64_w,i32_w]
                  rfl
                 refine pure_ (i:=9) (N:=some 63) (v:=?_) (a':=?_) #[true,true,true,true,true,true,true,false,true,true,false,false,false] rfl rfl (any_of HT_.out (by kernel_rfl)) (fun _ _ _ h=>h) (Or.inl ⟨by rfl,?_⟩) ?_ ?_
                 rotate_left
                 ·intro w'
                  go_simp
                  with_reducible rfl
                 rotate_left
                 ·simp only [Act.put,sp__,i64_w,i32_w]
                  rfl
                 refine take_ (i:=7) (N:=some 61) (v:=?_) (a':=?_) #[true,true,true,true,true,true,true,true,true,true,false,false,false] rfl rfl (take_ofW HT_.out HW_.out (by kernel_rfl)) (fun _ _ _ h=>h) (Or.inl ⟨by rfl,?_⟩) hHeld ?_ ?_
                 rotate_left
                 ·rintro w' ⟨s0,s1,s2,s3⟩
                  go_simp
                  with_reducible rfl
                 rotate_left
                 ·simp only [Act.put,sp__,i64_w,i32_w]
                  rfl
                 refine one_ (i:=10) (N:=some 64) #[true,true,true,true,true,true,true,true,true,true,true,false,false] rfl rfl (one_of HT_.out (by kernel_rfl)) (by decide) (fun K hK=>?_)
                 refine goes_ Tryz.func79 (by kernel_rfl) rfl #[.slice A0 l0.length c0,.int .i64 x7_4] (by rfl) rfl rfl (by (try simp only [List.map_toArray,List.map_cons,List.map_nil]);first|done|rfl|(simp only [List.length_drop,List.length_take];rfl)) ?_
                 with_reducible refine (plane_edge.calls _ _ l0 x7_4 t348 t349 t350 t351 _ ?side1 ?side2 A48.out).mono ?_
                 (case side1=>repeat (first|exact (Kd.C_below HR0.out HB.out)|(with_reducible refine Kd.C_alloc ?_ _)|(with_reducible refine Kd.C_drewN ?_ _)|(with_reducible refine Kd.C_drew ?_)))
                 (case side2=>exact HC0.out)
                 rintro e w52 ⟨rfl,hb⟩
                 refine ⟨_,rfl,?_⟩
                 have n0_:=Aside0.mk (blk_below (g:=gb344) (o:=.cells #[.int .i64 t336,.int .i64 t337,.int .i64 t338,.int .i64 t339] 178 (0,0)) (by (with_reducible repeat (first|refine blk_drewN ?_ _|refine blk_drew ?_|refine blk_alloc ?_ _));exact BK344.out) hb)
                 have n1_:=Aside0.mk (blk_below (g:=gb345) (o:=.cells #[.int .i64 t340,.int .i64 t341,.int .i64 t342,.int .i64 t343] 178 (0,0)) (by (with_reducible repeat (first|refine blk_drewN ?_ _|refine blk_drew ?_|refine blk_alloc ?_ _));exact BK345.out) hb)
                 have n2_:=Aside0.mk (below_step (by repeat (first|(with_reducible first|exact HB.out|apply below_alloc|apply pw_below_drewN|apply below_drew1|refine below_set ?_ GE344.out|refine below_set ?_ GE345.out)|exact HB.out)) hb)
                 clear BK344
                 clear BK345
                 clear HB
                 have BK344:=n0_
                 have BK345:=n1_
                 have HB:=n2_
                 clear n0_ n1_ n2_
                 (try clear hb)
                 (try clear hb2)
                 (try clear hk)
                 (try clear hi)
                 refine hK.out _ _ ⟨(blk_cell BK344.out 0).trans rfl,(blk_cell BK344.out 1).trans rfl,(blk_cell BK344.out 2).trans rfl,(blk_cell BK344.out 3).trans rfl⟩ (fun hHeld=>?_)
                 clear hK K
                 refine norm_ (a':=?_) ?_ ?_
                 rotate_left
                 ·show Act.put _ (some 64) _=_
                  simp only [Act.put,sp__,i64_w,i32_w]
                  rfl
                 refine one_ (i:=11) (N:=some 65) #[true,true,true,true,true,true,true,true,true,true,true,true,false] rfl rfl (one_of HT_.out (by kernel_rfl)) (by decide) (fun K hK=>?_)
                 refine goes_ Tryz.func81 (by kernel_rfl) rfl #[.agg #[.int .i64 t336,.int .i64 t337,.int .i64 t338,.int .i64 t339],.agg #[.int .i64 t348,.int .i64 t349,.int .i64 t350,.int .i64 t351]] (by rfl) rfl rfl (by (try simp only [List.map_toArray,List.map_cons,List.map_nil]);first|done|rfl|(simp only [List.length_drop,List.length_take];rfl)) ?_
                 with_reducible refine (plane_segment_meets.calls k4 t336 t337 t338 t339 t348 t349 t350 t351 true _ A49.out).mono ?_
                 rintro e w53 ⟨rfl,hb⟩
                 refine ⟨_,rfl,?_⟩
                 have n0_:=Aside0.mk (blk_below (g:=gb344) (o:=.cells #[.int .i64 t336,.int .i64 t337,.int .i64 t338,.int .i64 t339] 178 (0,0)) (by (with_reducible repeat (first|refine blk_drewN ?_ _|refine blk_drew ?_|refine blk_alloc ?_ _));exact BK344.out) hb)
                 have n1_:=Aside0.mk (blk_below (g:=gb345) (o:=.cells #[.int .i64 t340,.int .i64 t341,.int .i64 t342,.int .i64 t343] 178 (0,0)) (by (with_reducible repeat (first|refine blk_drewN ?_ _|refine blk_drew ?_|refine blk_alloc ?_ _));exact BK345.out) hb)
                 have n2_:=Aside0.mk (below_step (by repeat (first|(with_reducible first|exact HB.out|apply below_alloc|apply pw_below_drewN|apply below_drew1|refine below_set ?_ GE344.out|refine below_set ?_ GE345.out)|exact HB.out)) hb)
                 clear BK344
                 clear BK345
                 clear HB
                 have BK344:=n0_
                 have BK345:=n1_
                 have HB:=n2_
                 clear n0_ n1_ n2_
                 (try clear hb)
                 (try clear hb2)
                 (try clear hk)
                 (try clear hi)
                 refine hK.out _ _ ⟨(blk_cell BK344.out 0).trans rfl,(blk_cell BK344.out 1).trans rfl,(blk_cell BK344.out 2).trans rfl,(blk_cell BK344.out 3).trans rfl⟩ (fun hHeld=>?_)
                 clear hK K
                 refine norm_ (a':=?_) ?_ ?_
                 rotate_left
                 ·show Act.put _ (some 65) _=_
                  simp only [Act.put,sp__,i64_w,i32_w]
                  rfl
                 refine pure_ (i:=12) (N:=some 66) (v:=?_) (a':=?_) #[true,true,true,true,true,true,true,true,true,true,true,true,true] rfl rfl (any_of HT_.out (by kernel_rfl)) (fun _ _ _ h=>h) (Or.inl ⟨by rfl,?_⟩) ?_ ?_
                 rotate_left
                 ·intro w'
                  go_simp
                  with_reducible rfl
                 rotate_left
                 ·simp only [Act.put,sp__,i64_w,i32_w]
                  rfl
                 refine done_ (done_of HT_.out (by kernel_rfl)) ?_
                 try go_wp2
                 go_ret
                 exact ⟨by first|rfl|(simp [errW_none,errW_some] <;> rfl)|(simp [*,errW_none,errW_some] <;> rfl),by repeat (first|(with_reducible first|exact HB.out|apply below_alloc|apply pw_below_drewN|apply below_drew1|refine below_set ?_ GE344.out|refine below_set ?_ GE345.out)|exact HB.out)⟩
                ·replace c50:=Bool.eq_false_iff.mpr c50
                 subst c50
                 have H1:(plane_Simple.l1 k4 l0 (l0.length:Int) x18_2 (wrap64 (x7_4+1)) (l0.length:Int) x18_2 t336 t337 t338 t339)=some r:=by rw [if_neg (show ¬ (false=true) by decide)] at H;exact H
                 clear H
                 have H:=H1
                 clear H1
                 have H':=Aside0.mk H
                 clear H
                 try go_wp2
                 have n0_:=Aside0.mk (blk_drew BK344.out)
                 have n1_:=Aside0.mk (blk_drew BK345.out)
                 have n2_:=Aside0.mk (below_drew1 HB.out)
                 clear BK344
                 clear BK345
                 clear HB
                 have BK344:=n0_
                 have BK345:=n1_
                 have HB:=n2_
                 clear n0_ n1_ n2_
                 refine start_ (n:=13) (S:=fun w'=>w'.cell? ⟨gb344,0,none⟩=some (.int .i64 t336)∧w'.cell? ⟨gb344,1,none⟩=some (.int .i64 t337)∧w'.cell? ⟨gb344,2,none⟩=some (.int .i64 t338)∧w'.cell? ⟨gb344,3,none⟩=some (.int .i64 t339)) (ds:=[]) #[false,false,false,false,false,false,false,false,false,false,false,false,false] (by kernel_rfl) rfl rfl ⟨(blk_cell BK344.out 0).trans rfl,(blk_cell BK344.out 1).trans rfl,(blk_cell BK344.out 2).trans rfl,(blk_cell BK344.out 3).trans rfl⟩ (fun hHeld=>?_);refine with_tabW plane_Simple.tab13 plane_Simple.bits13 (fun HT_ HW_=>?_)
                 generalize wr.drew=w54 at BK344 BK345 HB hHeld ⊢
                 refine pure_ (i:=0) (N:=some 54) (v:=?_) (a':=?_) #[true,false,false,false,false,false,false,false,false,false,false,false,false] rfl rfl (any_of HT_.out (by kernel_rfl)) (fun _ _ _ h=>h) (Or.inl ⟨by rfl,?_⟩) ?_ ?_
                 rotate_left
                 ·intro w'
                  go_simp
                  with_reducible rfl
                 rotate_left
                 ·simp only [Act.put,sp__,i64_w,i32_w]
                  rfl
                 refine pure_ (i:=1) (N:=some 55) (v:=?_) (a':=?_) #[true,true,false,false,false,false,false,false,false,false,false,false,false] rfl rfl (any_of HT_.out (by kernel_rfl)) (fun _ _ _ h=>h) (Or.inl ⟨by rfl,?_⟩) ?_ ?_
                 rotate_left
                 ·intro w'
                  go_simp
                  with_reducible rfl
                 rotate_left
                 ·simp only [Act.put,sp__,i64_w,i32_w]
                  rfl
                 refine pure_ (i:=2) (N:=some 56) (v:=?_) (a':=?_) #[true,true,true,false,false,false,false,false,false,false,false,false,false] rfl rfl (any_of HT_.out (by kernel_rfl)) (fun _ _ _ h=>h) (Or.inl ⟨by rfl,?_⟩) ?_ ?_
                 rotate_left
                 ·intro w'
                  go_simp
                  with_reducible rfl
                 rotate_left
                 ·simp only [Act.put,sp__,i64_w,i32_w]
                  rfl
                 refine pure_ (i:=3) (N:=some 57) (v:=?_) (a':=?_) #[true,true,true,true,false,false,false,false,false,false,false,false,false] rfl rfl (any_of HT_.out (by kernel_rfl)) (fun _ _ _ h=>h) (Or.inl ⟨by rfl,?_⟩) ?_ ?_
                 rotate_left
                 ·intro w'
                  go_simp
                  with_reducible rfl
                 rotate_left
                 ·simp only [Act.put,sp__,i64_w,i32_w]
                  rfl
                 refine pure_ (i:=4) (N:=some 58) (v:=?_) (a':=?_) #[true,true,true,true,true,false,false,false,false,false,false,false,false] rfl rfl (any_of HT_.out (by kernel_rfl)) (fun _ _ _ h=>h) (Or.inl ⟨by rfl,?_⟩) ?_ ?_
                 rotate_left
                 ·intro w'
                  go_simp
                  with_reducible rfl
                 rotate_left
                 ·simp only [Act.put,sp__,i64_w,i32_w]
                  rfl
                 refine pure_ (i:=5) (N:=some 59) (v:=?_) (a':=?_) #[true,true,true,true,true,true,false,false,false,false,false,false,false] rfl rfl (any_of HT_.out (by kernel_rfl)) (fun _ _ _ h=>h) (Or.inl ⟨by rfl,?_⟩) ?_ ?_
                 rotate_left
                 ·intro w'
                  go_simp
                  with_reducible rfl
                 rotate_left
                 ·simp only [Act.put,sp__,i64_w,i32_w]
                  rfl
                 refine pure_ (i:=6) (N:=some 60) (v:=?_) (a':=?_) #[true,true,true,true,true,true,true,false,false,false,false,false,false] rfl rfl (any_of HT_.out (by kernel_rfl)) (fun _ _ _ h=>h) (Or.inl ⟨by rfl,?_⟩) ?_ ?_
                 rotate_left
                 ·intro w'
                  go_simp
                  with_reducible rfl
                 rotate_left
                 ·simp only [Act.put,sp__,i64_w,i32_w]
                  rfl
                 refine pure_ (i:=8) (N:=some 62) (v:=?_) (a':=?_) #[true,true,true,true,true,true,true,false,true,false,false,false,false] rfl rfl (any_of HT_.out (by kernel_rfl)) (fun _ _ _ h=>h) (Or.inl ⟨by rfl,?_⟩) ?_ ?_
                 rotate_left
                 ·intro w'
                  go_simp
                  with_reducible rfl
                 rotate_left
                 ·simp only [Act.put,sp__,i64_w,i32_w]
                  rfl
                 refine pure_ (i:=9) (N:=some 63) (v:=?_) (a':=?_) #[true,true,true,true,true,true,true,false,true,true,false,false,false] rfl rfl (any_of HT_.out (by kernel_rfl)) (fun _ _ _ h=>h) (Or.inl ⟨by rfl,?_⟩) ?_ ?_
                 rotate_left
                 ·intro w'
                  go_simp
                  with_reducible rfl
                 rotate_left
                 ·simp only [Act.put,sp__,i64_w,i32_w]
                  rfl
                 refine take_ (i:=7) (N:=some 61) (v:=?_) (a':=?_) #[true,true,true,true,true,true,true,true,true,true,false,false,false] rfl rfl (take_ofW HT_.out HW_.out (by kernel_rfl)) (fun _ _ _ h=>h) (Or.inl ⟨by rfl,?_⟩) hHeld ?_ ?_
                 rotate_left
                 ·rintro w' ⟨s0,s1,s2,s3⟩
                  go_simp
                  with_reducible rfl
                 rotate_left
                 ·simp only [Act.put,sp__,i64_w,i32_w]
                  rfl
                 refine one_ (i:=10) (N:=some 64) #[true,true,true,true,true,true,true,true,true,true,true,false,false] rfl rfl (one_of HT_.out (by kernel_rfl)) (by decide) (fun K hK=>?_)
                 refine goes_ Tryz.func79 (by kernel_rfl) rfl #[.slice A0 l0.length c0,.int .i64 x7_4] (by rfl) rfl rfl (by (try simp only [List.map_toArray,List.map_cons,List.map_nil]);first|done|rfl|(simp only [List.length_drop,List.length_take];rfl)) ?_
                 with_reducible refine (plane_edge.calls _ _ l0 x7_4 t348 t349 t350 t351 _ ?side1 ?side2 A48.out).mono ?_
                 (case side1=>repeat (first|exact (Kd.C_below HR0.out HB.out)|(with_reducible refine Kd.C_alloc ?_ _)|(with_reducible refine Kd.C_drewN ?_ _)|(with_reducible refine Kd.C_drew ?_)))
                 (case side2=>exact HC0.out)
                 rintro e w55 ⟨rfl,hb⟩
                 refine ⟨_,rfl,?_⟩
                 have n0_:=Aside0.mk (blk_below (g:=gb344) (o:=.cells #[.int .i64 t336,.int .i64 t337,.int .i64 t338,.int .i64 t339] 178 (0,0)) (by (with_reducible repeat (first|refine blk_drewN ?_ _|refine blk_drew ?_|refine blk_alloc ?_ _));exact BK344.out) hb)
                 have n1_:=Aside0.mk (blk_below (g:=gb345) (o:=.cells #[.int .i64 t340,.int .i64 t341,.int .i64 t342,.int .i64 t343] 178 (0,0)) (by (with_reducible repeat (first|refine blk_drewN ?_ _|refine blk_drew ?_|refine blk_alloc ?_ _));exact BK345.out) hb)
                 have n2_:=Aside0.mk (below_step (by repeat (first|(with_reducible first|exact HB.out|apply below_alloc|apply pw_below_drewN|apply below_drew1|refine below_set ?_ GE344.out|refine below_set ?_ GE345.out)|exact HB.out)) hb)
                 clear BK344
                 clear BK345
                 clear HB
                 have BK344:=n0_
                 have BK345:=n1_
                 have HB:=n2_
                 clear n0_ n1_ n2_
                 (try clear hb)
                 (try clear hb2)
                 (try clear hk)
                 (try clear hi)
                 refine hK.out _ _ ⟨(blk_cell BK344.out 0).trans rfl,(blk_cell BK344.out 1).trans rfl,(blk_cell BK344.out 2).trans rfl,(blk_cell BK344.out 3).trans rfl⟩ (fun hHeld=>?_)
                 clear hK K
                 refine norm_ (a':=?_) ?_ ?_
                 rotate_left
                 ·show Act.put _ (some 64) _=_
                  simp only [Act.put,sp__,i64_w,i32_w]
                  rfl
                 refine one_ (i:=11) (N:=some 65) #[true,true,true,true,true,true,true,true,true,true,true,true,false] rfl rfl (one_of HT_.out (by kernel_rfl)) (by decide) (fun K hK=>?_)
                 refine goes_ Tryz.func81 (by kernel_rfl) rfl #[.agg #[.int .i64 t336,.int .i64 t337,.int .i64 t338,.int .i64 t339],.agg #[.int .i64 t348,.int .i64 t349,.int .i64 t350,.int .i64 t351]] (by rfl) rfl rfl (by (try simp only [List.map_toArray,List.map_cons,List.map_nil]);first|done|rfl|(simp only [List.length_drop,List.length_take];rfl)) ?_
                 with_reducible refine (plane_segment_meets.calls k4 t336 t337 t338 t339 t348 t349 t350 t351 false _ A49.out).mono ?_
                 rintro e w56 ⟨rfl,hb⟩
                 refine ⟨_,rfl,?_⟩
                 have n0_:=Aside0.mk (blk_below (g:=gb344) (o:=.cells #[.int .i64 t336,.int .i64 t337,.int .i64 t338,.int .i64 t339] 178 (0,0)) (by (with_reducible repeat (first|refine blk_drewN ?_ _|refine blk_drew ?_|refine blk_alloc ?_ _));exact BK344.out) hb)
                 have n1_:=Aside0.mk (blk_below (g:=gb345) (o:=.cells #[.int .i64 t340,.int .i64 t341,.int .i64 t342,.int .i64 t343] 178 (0,0)) (by (with_reducible repeat (first|refine blk_drewN ?_ _|refine blk_drew ?_|refine blk_alloc ?_ _));exact BK345.out) hb)
                 have n2_:=Aside0.mk (below_step (by repeat (first|(with_reducible first|exact HB.out|apply below_alloc|apply pw_below_drewN|apply below_drew1|refine below_set ?_ GE344.out|refine below_set ?_ GE345.out)|exact HB.out)) hb)
                 clear BK344
                 clear BK345
                 clear HB
                 have BK344:=n0_
                 have BK345:=n1_
                 have HB:=n2_
                 clear n0_ n1_ n2_
                 (try clear hb)
                 (try clear hb2)
                 (try clear hk)
                 (try clear hi)
                 refine hK.out _ _ ⟨(blk_cell BK344.out 0).trans rfl,(blk_cell BK344.out 1).trans rfl,(blk_cell BK344.out 2).trans rfl,(blk_cell BK344.out 3).trans rfl⟩ (fun hHeld=>?_)
                 clear hK K
                 refine norm_ (a':=?_) ?_ ?_
                 rotate_left
                 ·show Act.put _ (some 65) _=_
                  simp only [Act.put,sp__,i64_w,i32_w]
                  rfl
                 refine pure_ (i:=12) (N:=some 66) (v:=?_) (a':=?_) #[true,true,true,true,true,true,true,true,true,true,true,true,true] rfl rfl (any_of HT_.out (by kernel_rfl)) (fun _ _ _ h=>h) (Or.inl ⟨by rfl,?_⟩) ?_ ?_
                 rotate_left
                 ·intro w'
                  go_simp
                  with_reducible rfl
                 rotate_left
                 ·simp only [Act.put,sp__,i64_w,i32_w]
                  rfl
                 refine done_ (done_of HT_.out (by kernel_rfl)) ?_
                 try go_wp2
                 go_roundg k4
                 case measure=>have:=HJ1.out;have:=HK2.out;have:=HJ10.out;have:=HK4.out;omega
                 case rel=>exact ⟨(wrap64 (x7_4+1)),(by first|rfl|(simp;done)|(simp [*];done)),H',⟨by have:=HJ1.out;have:=HK2.out;have:=HJ10.out;have:=HK4.out;omega⟩,⟨by (with_reducible repeat (first|refine blk_drewN ?_ _|refine blk_drew ?_|refine blk_alloc ?_ _));exact BK344.out⟩,⟨by (with_reducible repeat (first|refine blk_drewN ?_ _|refine blk_drew ?_|refine blk_alloc ?_ _));exact BK345.out⟩,⟨by repeat (first|(with_reducible first|exact HB.out|apply below_alloc|apply pw_below_drewN|apply below_drew1|refine below_set ?_ GE344.out|refine below_set ?_ GE345.out)|exact HB.out)⟩⟩
             ·rw [if_neg c44] at H
              have c44b0:decide (x7_4<(l0.length:Int))=false:=decide_eq_false c44
              clear c44
              have H':=Aside0.mk H
              clear H
              go_wp2
              go_roundg k4
              case measure=>have:=HJ1.out;have:=HK2.out;have:=HJ10.out;have:=HK4.out;omega
              case rel=>exact ⟨(wrap64 (x18_2+1)),(by first|rfl|(simp;done)|(simp [*];done)),H',⟨by have:=HJ1.out;have:=HK2.out;have:=HJ10.out;have:=HK4.out;omega⟩,⟨by repeat (first|(with_reducible first|exact HB.out|apply below_alloc|apply pw_below_drewN|apply below_drew1|refine below_set ?_ GE344.out|refine below_set ?_ GE345.out)|exact HB.out)⟩⟩
      ·rw [if_neg c7] at H
       have c7b0:decide (x18_2<(l0.length:Int))=false:=decide_eq_false c7
       clear c7
       obtain rfl:=Option.some.inj H
       go_wp2
       go_ret
       exact ⟨by first|rfl|(simp [errW_none,errW_some] <;> rfl)|(simp [*,errW_none,errW_some] <;> rfl),by repeat (first|(with_reducible first|exact HB.out|apply below_alloc|apply pw_below_drewN|apply below_drew1)|exact HB.out)⟩
end Go.Proofs.YtiioklboaookiaaGreatDoor.Q
