/- A part of the proof: what the law's row needs. -/
import Derived.Test.YtiioklboaookiaaGreatDoorV3
namespace Go.Proofs.YtiioklboaookiaaGreatDoor.Q
open Go.RowKit Go.Proofs.YtiioklboaookiaaGreatDoorW.PrintWords Go.Proofs.YtiioklboaookiaaGreatDoorW.PrintLast Go.Proofs.YtiioklboaookiaaGreatDoor.Hand Go.Proofs.YtiioklboaookiaaGreatDoorW.PrintMore
attribute [local go_sem] max2_int min2_int max_two min_two max_three min_three max_four min_four
set_option linter.unusedVariables false
set_option linter.unusedSimpArgs false
def plane_segment_meets.j0:Nat→Bool→Int→Int→Int→Int→Int→Int→Int→Int→Option (Bool)
 | 0,_,_,_,_,_,_,_,_,_=>none
 | k+1,x26,x459000,x459001,x459002,x459003,x460000,x460001,x460002,x460003=>if x26=true then (some true) else ((plane_turn.f x459000 x459001 x459002 x459003 x460000 x460001).bind fun t464=>((plane_turn.f x459000 x459001 x459002 x459003 x460002 x460003).bind fun t465=>(if (wrap64 (t464*t465))<0 then ((plane_turn.f x460000 x460001 x460002 x460003 x459000 x459001).bind fun t466=>((plane_turn.f x460000 x460001 x460002 x460003 x459002 x459003).bind fun t467=>(some (decide ((wrap64 (t466*t467))<0))))) else (some false))))
def plane_segment_meets.f (k:Nat) (a0_0:Int) (a0_1:Int) (a0_2:Int) (a0_3:Int) (a1_0:Int) (a1_1:Int) (a1_2:Int) (a1_3:Int):Option (Bool):=(plane_segment_has.f a0_0 a0_1 a0_2 a0_3 a1_0 a1_1).bind fun t460=>(if t460=true then (plane_segment_meets.j0 k true a0_0 a0_1 a0_2 a0_3 a1_0 a1_1 a1_2 a1_3) else ((plane_segment_has.f a0_0 a0_1 a0_2 a0_3 a1_2 a1_3).bind fun t461=>(if t461=true then (plane_segment_meets.j0 k true a0_0 a0_1 a0_2 a0_3 a1_0 a1_1 a1_2 a1_3) else ((plane_segment_has.f a1_0 a1_1 a1_2 a1_3 a0_0 a0_1).bind fun t462=>(if t462=true then (plane_segment_meets.j0 k true a0_0 a0_1 a0_2 a0_3 a1_0 a1_1 a1_2 a1_3) else ((plane_segment_has.f a1_0 a1_1 a1_2 a1_3 a0_2 a0_3).bind fun t463=>(plane_segment_meets.j0 k t463 a0_0 a0_1 a0_2 a0_3 a1_0 a1_1 a1_2 a1_3)))))))
theorem plane_segment_meets.mono_l:∀ k,(∀ y0 y1 y2 y3 y4 y5 y6 y7 y8,LeO (plane_segment_meets.j0 k y0 y1 y2 y3 y4 y5 y6 y7 y8) (plane_segment_meets.j0 (k+1) y0 y1 y2 y3 y4 y5 y6 y7 y8))
 | 0=>fun _ _ _ _ _ _ _ _ _ r h=>by simp [plane_segment_meets.j0] at h
 | k+1=>by
  have ih0:=plane_segment_meets.mono_l k
  ·intro y0 y1 y2 y3 y4 y5 y6 y7 y8
   unfold plane_segment_meets.j0
   repeat' first
   | (with_reducible exact ih0 _ _ _ _ _ _ _ _ _)
   | (with_reducible exact LeO.refl _)
   | (with_reducible exact LeO.none _)
   | (with_reducible refine LeO.ite ?_ ?_)
   | (with_reducible refine LeO.bind ?_ (fun _=>?_))
   | exact ih0 _ _ _ _ _ _ _ _ _
   | exact LeO.none _
   | refine LeO.ite ?_ ?_
   | refine LeO.bind ?_ (fun _=>?_)
theorem plane_segment_meets.mono:∀ a0 a1 a2 a3 a4 a5 a6 a7 k,LeO (plane_segment_meets.f k a0 a1 a2 a3 a4 a5 a6 a7) (plane_segment_meets.f (k+1) a0 a1 a2 a3 a4 a5 a6 a7):=by
 intro a0 a1 a2 a3 a4 a5 a6 a7 k
 have ih0:=plane_segment_meets.mono_l k
 unfold plane_segment_meets.f
 repeat' first
   | (with_reducible exact ih0 _ _ _ _ _ _ _ _ _)
   | (with_reducible exact LeO.refl _)
   | (with_reducible exact LeO.none _)
   | (with_reducible refine LeO.ite ?_ ?_)
   | (with_reducible refine LeO.bind ?_ (fun _=>?_))
   | exact ih0 _ _ _ _ _ _ _ _ _
   | exact LeO.none _
   | refine LeO.ite ?_ ?_
   | refine LeO.bind ?_ (fun _=>?_)
def plane_segment_meets.T3:Bool × List (List Nat × List Nat):=(true,[([],[]),([0],[0]),([],[]),([2],[2]),([],[]),([4],[4]),([1,3,5],[1,3,5]),([],[]),([7],[7]),([],[]),([9],[9]),([],[]),([11],[11]),([8,10,12,6],[8,10,12]),([6,13],[6,13]),([14],[14]),([15,13],[15]),([16],[16]),([17,16],[16,17]),([16],[16]),([19,16],[16,19]),([16],[16]),([21,16],[16,21]),([18,20,22,16,16],[16,18,20,22]),([16],[16]),([24,16],[16,24]),([16],[16]),([26,16],[16,26]),([16],[16]),([28,16],[16,28]),([25,27,29,23,16],[16,25,27,29]),([23,30,16],[16,23,30]),([31,16],[16,31]),([16,32],[16,32]),([33,30,0,1,2,3,4,5,6,7,8,9,10,11,12,13,14,15,16,17,18,19,20,21,22,23,24,25,26,27,28,29,30,31,32,33],[33])])
def plane_segment_meets.B3:List Nat:=[0,1,0,4,0,16,63,0,128,0,512,0,2048,8191,16383,32767,65535,131071,262143,131071,655359,131071,2228223,8388607,131071,16908287,131071,67239935,131071,268566527,1073741823,2147483647,4294967295,8589934591,17179869183]
theorem plane_segment_meets.tab3:rtab .any (opsOf Tryz.f81 3)=plane_segment_meets.T3:=by kernel_rfl
theorem plane_segment_meets.bits3:waitsOk plane_segment_meets.T3.2 plane_segment_meets.B3=true:=by kernel_rfl
set_option maxHeartbeats 8000000 in
set_option maxRecDepth 100000 in
theorem plane_segment_meets.calls (k:Nat) (a0_0:Int) (a0_1:Int) (a0_2:Int) (a0_3:Int) (a1_0:Int) (a1_1:Int) (a1_2:Int) (a1_3:Int) (r:Bool) (w:World) (h:plane_segment_meets.f k a0_0 a0_1 a0_2 a0_3 a1_0 a1_1 a1_2 a1_3=some r) :
  Calls Tryz.prog 81 #[.agg #[.int .i64 a0_0,.int .i64 a0_1,.int .i64 a0_2,.int .i64 a0_3],.agg #[.int .i64 a1_0,.int .i64 a1_1,.int .i64 a1_2,.int .i64 a1_3]] w fun e w'=>e=.returned (.bool r)∧Below w.heap.size w w':=by
 have hu178:=Tryz.underlying178
 have hu159:=Tryz.underlying159
 have HB:=Aside0.mk (Below.refl w.heap.size w)
 have H:((plane_segment_has.f a0_0 a0_1 a0_2 a0_3 a1_0 a1_1).bind fun t460=>(if t460=true then (plane_segment_meets.j0 k true a0_0 a0_1 a0_2 a0_3 a1_0 a1_1 a1_2 a1_3) else ((plane_segment_has.f a0_0 a0_1 a0_2 a0_3 a1_2 a1_3).bind fun t461=>(if t461=true then (plane_segment_meets.j0 k true a0_0 a0_1 a0_2 a0_3 a1_0 a1_1 a1_2 a1_3) else ((plane_segment_has.f a1_0 a1_1 a1_2 a1_3 a0_0 a0_1).bind fun t462=>(if t462=true then (plane_segment_meets.j0 k true a0_0 a0_1 a0_2 a0_3 a1_0 a1_1 a1_2 a1_3) else ((plane_segment_has.f a1_0 a1_1 a1_2 a1_3 a0_2 a0_3).bind fun t463=>(plane_segment_meets.j0 k t463 a0_0 a0_1 a0_2 a0_3 a1_0 a1_1 a1_2 a1_3))))))))=some r:=h
 clear h
 have HC3:=Aside0.mk H
 clear H
 go_enter Tryz.func81,Tryz.ntmps81
 go_upto_region 1 with (first|((with_reducible refine gate_dst (N:=2) rfl ?_);refine box_event ?hg (N:=2) ?hd (cs:=#[.int .i64 a0_0,.int .i64 a0_1,.int .i64 a0_2,.int .i64 a0_3]) (t:=178) ?hr ?_;(case hd=>rfl);(case hg=>rfl);(case hr=>first|(go_simp;done)|(go_simp;rfl));intro gb458 hg w4 hbox hb;have n0_:=Aside0.mk (below_step (by repeat (first|(with_reducible first|exact HB.out|apply below_alloc|apply pw_below_drewN|apply below_drew1)|exact HB.out)) hb);have n1_:=Aside0.mk (hbox);have n2_:=Aside0.mk ((by rw [hg];exact (below_size (by repeat (first|(with_reducible first|exact HB.out|apply below_alloc|apply pw_below_drewN|apply below_drew1)|exact HB.out))):w.heap.size≤gb458));have n3_:=Aside0.mk ((by rw [hg];exact (below_size (by repeat (first|(with_reducible first|exact HB.out|apply below_alloc|apply pw_below_drewN|apply below_drew1)|exact HB.out))):w.heap.size≤gb458));clear HB;have HB:=n0_;have BK458:=n1_;have GW458:=n2_;have GE458:=n3_;clear n0_ n1_ n2_ n3_;clear hb hbox hg)|((with_reducible refine gate_dst (N:=3) rfl ?_);refine box_event ?hg (N:=3) ?hd (cs:=#[.int .i64 a1_0,.int .i64 a1_1,.int .i64 a1_2,.int .i64 a1_3]) (t:=178) ?hr ?_;(case hd=>rfl);(case hg=>rfl);(case hr=>first|(go_simp;done)|(go_simp;rfl));intro gb459 hg w5 hbox hb;have n0_:=Aside0.mk (blk_below (g:=gb458) (o:=.cells #[.int .i64 a0_0,.int .i64 a0_1,.int .i64 a0_2,.int .i64 a0_3] 178 (0,0)) (by (with_reducible repeat (first|refine blk_drewN ?_ _|refine blk_drew ?_|refine blk_alloc ?_ _));exact BK458.out) hb);have n1_:=Aside0.mk (below_step (by repeat (first|(with_reducible first|exact HB.out|apply below_alloc|apply pw_below_drewN|apply below_drew1|refine below_set ?_ GE458.out)|exact HB.out)) hb);have n2_:=Aside0.mk (hbox);have n3_:=Aside0.mk ((by rw [hg];exact (below_size (by repeat (first|(with_reducible first|exact HB.out|apply below_alloc|apply pw_below_drewN|apply below_drew1|refine below_set ?_ GE458.out)|exact HB.out))):w.heap.size≤gb459));have n4_:=Aside0.mk ((by rw [hg];exact (below_size (by repeat (first|(with_reducible first|exact HB.out|apply below_alloc|apply pw_below_drewN|apply below_drew1|refine below_set ?_ GE458.out)|exact HB.out))):w.heap.size≤gb459));have n5_:=Aside0.mk ((by rw [hg];exact Nat.ne_of_lt (blk_lt (g:=gb458) (o:=.cells #[.int .i64 a0_0,.int .i64 a0_1,.int .i64 a0_2,.int .i64 a0_3] 178 (0,0)) (by (with_reducible repeat (first|refine blk_drewN ?_ _|refine blk_drew ?_|refine blk_alloc ?_ _));exact BK458.out)):gb458≠gb459));have n6_:=Aside0.mk ((by rw [hg];exact Nat.ne_of_gt (blk_lt (g:=gb458) (o:=.cells #[.int .i64 a0_0,.int .i64 a0_1,.int .i64 a0_2,.int .i64 a0_3] 178 (0,0)) (by (with_reducible repeat (first|refine blk_drewN ?_ _|refine blk_drew ?_|refine blk_alloc ?_ _));exact BK458.out)):gb459≠gb458));clear BK458;clear HB;have BK458:=n0_;have HB:=n1_;have BK459:=n2_;have GW459:=n3_;have GE459:=n4_;have NB458_459:=n5_;have NB459_458:=n6_;clear n0_ n1_ n2_ n3_ n4_ n5_ n6_;clear hb hbox hg))
 (try simp only [Act.put,sp__])
 go_cut [26] (fun v26 wc=>∃ (kq:Nat) (x26_2:Bool),v26=.bool x26_2∧Aside0 (plane_segment_meets.j0 kq x26_2 a0_0 a0_1 a0_2 a0_3 a1_0 a1_1 a1_2 a1_3=some r)∧Aside0 (kq≤k)∧Aside0 (wc.heap[gb458]?=some (.cells #[.int .i64 a0_0,.int .i64 a0_1,.int .i64 a0_2,.int .i64 a0_3] 178 (0,0)))∧Aside0 (wc.heap[gb459]?=some (.cells #[.int .i64 a1_0,.int .i64 a1_1,.int .i64 a1_2,.int .i64 a1_3] 178 (0,0)))∧Aside0 (Below w.heap.size w wc))
 case first =>
  have H:=HC3.out
  clear HC3
  replace H:=Option.bind_eq_some_iff.mp H
  obtain ⟨t460,A60,H⟩:=H
  replace H:(if t460=true then (plane_segment_meets.j0 k true a0_0 a0_1 a0_2 a0_3 a1_0 a1_1 a1_2 a1_3) else ((plane_segment_has.f a0_0 a0_1 a0_2 a0_3 a1_2 a1_3).bind fun t461=>(if t461=true then (plane_segment_meets.j0 k true a0_0 a0_1 a0_2 a0_3 a1_0 a1_1 a1_2 a1_3) else ((plane_segment_has.f a1_0 a1_1 a1_2 a1_3 a0_0 a0_1).bind fun t462=>(if t462=true then (plane_segment_meets.j0 k true a0_0 a0_1 a0_2 a0_3 a1_0 a1_1 a1_2 a1_3) else ((plane_segment_has.f a1_0 a1_1 a1_2 a1_3 a0_2 a0_3).bind fun t463=>(plane_segment_meets.j0 k t463 a0_0 a0_1 a0_2 a0_3 a1_0 a1_1 a1_2 a1_3)))))))=some r:=H
  have A6:=Aside0.mk A60;(try simp only [Int.toNat_natCast] at A6)
  clear A60
  by_cases c7:t460=true
  ·subst c7
   have H1:(plane_segment_meets.j0 k true a0_0 a0_1 a0_2 a0_3 a1_0 a1_1 a1_2 a1_3)=some r:=by rw [if_pos rfl] at H;exact H
   clear H
   have H:=H1
   clear H1
   have H':=Aside0.mk H
   clear H
   have hnb8:=NB458_459.out
   have hnc8:=NB459_458.out
   have hcz9_0:w5.cell? ⟨gb458,0,none⟩=some (.int .i64 a0_0):=(blk_cell BK458.out 0).trans rfl
   have hcz9_1:w5.cell? ⟨gb458,1,none⟩=some (.int .i64 a0_1):=(blk_cell BK458.out 1).trans rfl
   have hcz9_2:w5.cell? ⟨gb458,2,none⟩=some (.int .i64 a0_2):=(blk_cell BK458.out 2).trans rfl
   have hcz9_3:w5.cell? ⟨gb458,3,none⟩=some (.int .i64 a0_3):=(blk_cell BK458.out 3).trans rfl
   have hfz9_0:=blk_frozen BK458.out 0
   have hfz9_1:=blk_frozen BK458.out 1
   have hfz9_2:=blk_frozen BK458.out 2
   have hfz9_3:=blk_frozen BK458.out 3
   have hcz10_0:w5.cell? ⟨gb459,0,none⟩=some (.int .i64 a1_0):=(blk_cell BK459.out 0).trans rfl
   have hcz10_1:w5.cell? ⟨gb459,1,none⟩=some (.int .i64 a1_1):=(blk_cell BK459.out 1).trans rfl
   have hcz10_2:w5.cell? ⟨gb459,2,none⟩=some (.int .i64 a1_2):=(blk_cell BK459.out 2).trans rfl
   have hcz10_3:w5.cell? ⟨gb459,3,none⟩=some (.int .i64 a1_3):=(blk_cell BK459.out 3).trans rfl
   have hfz10_0:=blk_frozen BK459.out 0
   have hfz10_1:=blk_frozen BK459.out 1
   have hfz10_2:=blk_frozen BK459.out 2
   have hfz10_3:=blk_frozen BK459.out 3
   go_wp2_with (first|((with_reducible refine gate_callee (f:=80) rfl ?_);refine goesL_ (some 8) rfl rfl Tryz.func80 (by kernel_rfl) rfl #[.agg #[.int .i64 a0_0,.int .i64 a0_1,.int .i64 a0_2,.int .i64 a0_3],.agg #[.int .i64 a1_0,.int .i64 a1_1]] rfl (by (try simp only [List.map_toArray,List.map_cons,List.map_nil]);first|done|rfl|(simp only [List.length_drop,List.length_take];rfl)) ?_;(with_reducible refine (plane_segment_has.calls a0_0 a0_1 a0_2 a0_3 a1_0 a1_1 true _ A6.out).mono ?_);rintro e w11 ⟨rfl,hb⟩;refine ⟨_,rfl,?_⟩;have n0_:=Aside0.mk (blk_below (g:=gb458) (o:=.cells #[.int .i64 a0_0,.int .i64 a0_1,.int .i64 a0_2,.int .i64 a0_3] 178 (0,0)) (by (with_reducible repeat (first|refine blk_drewN ?_ _|refine blk_drew ?_|refine blk_alloc ?_ _));exact BK458.out) hb);have n1_:=Aside0.mk (blk_below (g:=gb459) (o:=.cells #[.int .i64 a1_0,.int .i64 a1_1,.int .i64 a1_2,.int .i64 a1_3] 178 (0,0)) (by (with_reducible repeat (first|refine blk_drewN ?_ _|refine blk_drew ?_|refine blk_alloc ?_ _));exact BK459.out) hb);have n2_:=Aside0.mk (below_step (by repeat (first|(with_reducible first|exact HB.out|apply below_alloc|apply pw_below_drewN|apply below_drew1|refine below_set ?_ GE458.out|refine below_set ?_ GE459.out)|exact HB.out)) hb);clear BK458;clear BK459;clear HB;have BK458:=n0_;have BK459:=n1_;have HB:=n2_;clear n0_ n1_ n2_;(try clear hb);(try clear hb2);(try clear hk);(try clear hi)))
   go_meet
   case rel=>exact ⟨_,(true),(by first|rfl|(simp;done)|(simp [*];done)),H',⟨by first|omega|exact Nat.le_refl _⟩,⟨by (with_reducible repeat (first|refine blk_drewN ?_ _|refine blk_drew ?_|refine blk_alloc ?_ _));exact BK458.out⟩,⟨by (with_reducible repeat (first|refine blk_drewN ?_ _|refine blk_drew ?_|refine blk_alloc ?_ _));exact BK459.out⟩,⟨by repeat (first|(with_reducible first|exact HB.out|apply below_alloc|apply pw_below_drewN|apply below_drew1|refine below_set ?_ GE458.out|refine below_set ?_ GE459.out)|exact HB.out)⟩⟩
  ·replace c7:=Bool.eq_false_iff.mpr c7
   subst c7
   have H1:((plane_segment_has.f a0_0 a0_1 a0_2 a0_3 a1_2 a1_3).bind fun t461=>(if t461=true then (plane_segment_meets.j0 k true a0_0 a0_1 a0_2 a0_3 a1_0 a1_1 a1_2 a1_3) else ((plane_segment_has.f a1_0 a1_1 a1_2 a1_3 a0_0 a0_1).bind fun t462=>(if t462=true then (plane_segment_meets.j0 k true a0_0 a0_1 a0_2 a0_3 a1_0 a1_1 a1_2 a1_3) else ((plane_segment_has.f a1_0 a1_1 a1_2 a1_3 a0_2 a0_3).bind fun t463=>(plane_segment_meets.j0 k t463 a0_0 a0_1 a0_2 a0_3 a1_0 a1_1 a1_2 a1_3))))))=some r:=by rw [if_neg (show ¬ (false=true) by decide)] at H;exact H
   clear H
   have H:=H1
   clear H1
   replace H:=Option.bind_eq_some_iff.mp H
   obtain ⟨t461,A120,H⟩:=H
   replace H:(if t461=true then (plane_segment_meets.j0 k true a0_0 a0_1 a0_2 a0_3 a1_0 a1_1 a1_2 a1_3) else ((plane_segment_has.f a1_0 a1_1 a1_2 a1_3 a0_0 a0_1).bind fun t462=>(if t462=true then (plane_segment_meets.j0 k true a0_0 a0_1 a0_2 a0_3 a1_0 a1_1 a1_2 a1_3) else ((plane_segment_has.f a1_0 a1_1 a1_2 a1_3 a0_2 a0_3).bind fun t463=>(plane_segment_meets.j0 k t463 a0_0 a0_1 a0_2 a0_3 a1_0 a1_1 a1_2 a1_3)))))=some r:=H
   have A12:=Aside0.mk A120;(try simp only [Int.toNat_natCast] at A12)
   clear A120
   by_cases c13:t461=true
   ·subst c13
    have H1:(plane_segment_meets.j0 k true a0_0 a0_1 a0_2 a0_3 a1_0 a1_1 a1_2 a1_3)=some r:=by rw [if_pos rfl] at H;exact H
    clear H
    have H:=H1
    clear H1
    have H':=Aside0.mk H
    clear H
    have hnb14:=NB458_459.out
    have hnc14:=NB459_458.out
    have hcz15_0:w5.cell? ⟨gb458,0,none⟩=some (.int .i64 a0_0):=(blk_cell BK458.out 0).trans rfl
    have hcz15_1:w5.cell? ⟨gb458,1,none⟩=some (.int .i64 a0_1):=(blk_cell BK458.out 1).trans rfl
    have hcz15_2:w5.cell? ⟨gb458,2,none⟩=some (.int .i64 a0_2):=(blk_cell BK458.out 2).trans rfl
    have hcz15_3:w5.cell? ⟨gb458,3,none⟩=some (.int .i64 a0_3):=(blk_cell BK458.out 3).trans rfl
    have hfz15_0:=blk_frozen BK458.out 0
    have hfz15_1:=blk_frozen BK458.out 1
    have hfz15_2:=blk_frozen BK458.out 2
    have hfz15_3:=blk_frozen BK458.out 3
    have hcz16_0:w5.cell? ⟨gb459,0,none⟩=some (.int .i64 a1_0):=(blk_cell BK459.out 0).trans rfl
    have hcz16_1:w5.cell? ⟨gb459,1,none⟩=some (.int .i64 a1_1):=(blk_cell BK459.out 1).trans rfl
    have hcz16_2:w5.cell? ⟨gb459,2,none⟩=some (.int .i64 a1_2):=(blk_cell BK459.out 2).trans rfl
    have hcz16_3:w5.cell? ⟨gb459,3,none⟩=some (.int .i64 a1_3):=(blk_cell BK459.out 3).trans rfl
    have hfz16_0:=blk_frozen BK459.out 0
    have hfz16_1:=blk_frozen BK459.out 1
    have hfz16_2:=blk_frozen BK459.out 2
    have hfz16_3:=blk_frozen BK459.out 3
    go_wp2_with (first|((with_reducible refine gate_callee (f:=80) rfl ?_);refine goesL_ (some 8) rfl rfl Tryz.func80 (by kernel_rfl) rfl #[.agg #[.int .i64 a0_0,.int .i64 a0_1,.int .i64 a0_2,.int .i64 a0_3],.agg #[.int .i64 a1_0,.int .i64 a1_1]] rfl (by (try simp only [List.map_toArray,List.map_cons,List.map_nil]);first|done|rfl|(simp only [List.length_drop,List.length_take];rfl)) ?_;(with_reducible refine (plane_segment_has.calls a0_0 a0_1 a0_2 a0_3 a1_0 a1_1 false _ A6.out).mono ?_);rintro e w17 ⟨rfl,hb⟩;refine ⟨_,rfl,?_⟩;have n0_:=Aside0.mk (blk_below (g:=gb458) (o:=.cells #[.int .i64 a0_0,.int .i64 a0_1,.int .i64 a0_2,.int .i64 a0_3] 178 (0,0)) (by (with_reducible repeat (first|refine blk_drewN ?_ _|refine blk_drew ?_|refine blk_alloc ?_ _));exact BK458.out) hb);have n1_:=Aside0.mk (blk_below (g:=gb459) (o:=.cells #[.int .i64 a1_0,.int .i64 a1_1,.int .i64 a1_2,.int .i64 a1_3] 178 (0,0)) (by (with_reducible repeat (first|refine blk_drewN ?_ _|refine blk_drew ?_|refine blk_alloc ?_ _));exact BK459.out) hb);have n2_:=Aside0.mk (below_step (by repeat (first|(with_reducible first|exact HB.out|apply below_alloc|apply pw_below_drewN|apply below_drew1|refine below_set ?_ GE458.out|refine below_set ?_ GE459.out)|exact HB.out)) hb);clear BK458;clear BK459;clear HB;have BK458:=n0_;have BK459:=n1_;have HB:=n2_;clear n0_ n1_ n2_;(try clear hb);(try clear hb2);(try clear hk);(try clear hi);have hcz18_0:w17.cell? ⟨gb458,0,none⟩=some (.int .i64 a0_0):=(blk_cell BK458.out 0).trans rfl;have hcz18_1:w17.cell? ⟨gb458,1,none⟩=some (.int .i64 a0_1):=(blk_cell BK458.out 1).trans rfl;have hcz18_2:w17.cell? ⟨gb458,2,none⟩=some (.int .i64 a0_2):=(blk_cell BK458.out 2).trans rfl;have hcz18_3:w17.cell? ⟨gb458,3,none⟩=some (.int .i64 a0_3):=(blk_cell BK458.out 3).trans rfl;have hfz18_0:=blk_frozen BK458.out 0;have hfz18_1:=blk_frozen BK458.out 1;have hfz18_2:=blk_frozen BK458.out 2;have hfz18_3:=blk_frozen BK458.out 3;have hcz19_0:w17.cell? ⟨gb459,0,none⟩=some (.int .i64 a1_0):=(blk_cell BK459.out 0).trans rfl;have hcz19_1:w17.cell? ⟨gb459,1,none⟩=some (.int .i64 a1_1):=(blk_cell BK459.out 1).trans rfl;have hcz19_2:w17.cell? ⟨gb459,2,none⟩=some (.int .i64 a1_2):=(blk_cell BK459.out 2).trans rfl;have hcz19_3:w17.cell? ⟨gb459,3,none⟩=some (.int .i64 a1_3):=(blk_cell BK459.out 3).trans rfl;have hfz19_0:=blk_frozen BK459.out 0;have hfz19_1:=blk_frozen BK459.out 1;have hfz19_2:=blk_frozen BK459.out 2;have hfz19_3:=blk_frozen BK459.out 3)|(go_at_call 80;(with_reducible refine (plane_segment_has.calls a0_0 a0_1 a0_2 a0_3 a1_2 a1_3 true _ A12.out).mono ?_);rintro e w20 ⟨rfl,hb⟩;have n0_:=Aside0.mk (blk_below (g:=gb458) (o:=.cells #[.int .i64 a0_0,.int .i64 a0_1,.int .i64 a0_2,.int .i64 a0_3] 178 (0,0)) (by (with_reducible repeat (first|refine blk_drewN ?_ _|refine blk_drew ?_|refine blk_alloc ?_ _));exact BK458.out) hb);have n1_:=Aside0.mk (blk_below (g:=gb459) (o:=.cells #[.int .i64 a1_0,.int .i64 a1_1,.int .i64 a1_2,.int .i64 a1_3] 178 (0,0)) (by (with_reducible repeat (first|refine blk_drewN ?_ _|refine blk_drew ?_|refine blk_alloc ?_ _));exact BK459.out) hb);have n2_:=Aside0.mk (below_step (by repeat (first|(with_reducible first|exact HB.out|apply below_alloc|apply pw_below_drewN|apply below_drew1|refine below_set ?_ GE458.out|refine below_set ?_ GE459.out)|exact HB.out)) hb);clear BK458;clear BK459;clear HB;have BK458:=n0_;have BK459:=n1_;have HB:=n2_;clear n0_ n1_ n2_;(try clear hb);(try clear hb2);(try clear hk);(try clear hi)))
    go_meet
    case rel=>exact ⟨_,(true),(by first|rfl|(simp;done)|(simp [*];done)),H',⟨by first|omega|exact Nat.le_refl _⟩,⟨by (with_reducible repeat (first|refine blk_drewN ?_ _|refine blk_drew ?_|refine blk_alloc ?_ _));exact BK458.out⟩,⟨by (with_reducible repeat (first|refine blk_drewN ?_ _|refine blk_drew ?_|refine blk_alloc ?_ _));exact BK459.out⟩,⟨by repeat (first|(with_reducible first|exact HB.out|apply below_alloc|apply pw_below_drewN|apply below_drew1|refine below_set ?_ GE458.out|refine below_set ?_ GE459.out)|exact HB.out)⟩⟩
   ·replace c13:=Bool.eq_false_iff.mpr c13
    subst c13
    have H1:((plane_segment_has.f a1_0 a1_1 a1_2 a1_3 a0_0 a0_1).bind fun t462=>(if t462=true then (plane_segment_meets.j0 k true a0_0 a0_1 a0_2 a0_3 a1_0 a1_1 a1_2 a1_3) else ((plane_segment_has.f a1_0 a1_1 a1_2 a1_3 a0_2 a0_3).bind fun t463=>(plane_segment_meets.j0 k t463 a0_0 a0_1 a0_2 a0_3 a1_0 a1_1 a1_2 a1_3))))=some r:=by rw [if_neg (show ¬ (false=true) by decide)] at H;exact H
    clear H
    have H:=H1
    clear H1
    replace H:=Option.bind_eq_some_iff.mp H
    obtain ⟨t462,A210,H⟩:=H
    replace H:(if t462=true then (plane_segment_meets.j0 k true a0_0 a0_1 a0_2 a0_3 a1_0 a1_1 a1_2 a1_3) else ((plane_segment_has.f a1_0 a1_1 a1_2 a1_3 a0_2 a0_3).bind fun t463=>(plane_segment_meets.j0 k t463 a0_0 a0_1 a0_2 a0_3 a1_0 a1_1 a1_2 a1_3)))=some r:=H
    have A21:=Aside0.mk A210;(try simp only [Int.toNat_natCast] at A21)
    clear A210
    by_cases c22:t462=true
    ·subst c22
     have H1:(plane_segment_meets.j0 k true a0_0 a0_1 a0_2 a0_3 a1_0 a1_1 a1_2 a1_3)=some r:=by rw [if_pos rfl] at H;exact H
     clear H
     have H:=H1
     clear H1
     have H':=Aside0.mk H
     clear H
     have hnb23:=NB458_459.out
     have hnc23:=NB459_458.out
     have hcz24_0:w5.cell? ⟨gb458,0,none⟩=some (.int .i64 a0_0):=(blk_cell BK458.out 0).trans rfl
     have hcz24_1:w5.cell? ⟨gb458,1,none⟩=some (.int .i64 a0_1):=(blk_cell BK458.out 1).trans rfl
     have hcz24_2:w5.cell? ⟨gb458,2,none⟩=some (.int .i64 a0_2):=(blk_cell BK458.out 2).trans rfl
     have hcz24_3:w5.cell? ⟨gb458,3,none⟩=some (.int .i64 a0_3):=(blk_cell BK458.out 3).trans rfl
     have hfz24_0:=blk_frozen BK458.out 0
     have hfz24_1:=blk_frozen BK458.out 1
     have hfz24_2:=blk_frozen BK458.out 2
     have hfz24_3:=blk_frozen BK458.out 3
     have hcz25_0:w5.cell? ⟨gb459,0,none⟩=some (.int .i64 a1_0):=(blk_cell BK459.out 0).trans rfl
     have hcz25_1:w5.cell? ⟨gb459,1,none⟩=some (.int .i64 a1_1):=(blk_cell BK459.out 1).trans rfl
     have hcz25_2:w5.cell? ⟨gb459,2,none⟩=some (.int .i64 a1_2):=(blk_cell BK459.out 2).trans rfl
     have hcz25_3:w5.cell? ⟨gb459,3,none⟩=some (.int .i64 a1_3):=(blk_cell BK459.out 3).trans rfl
     have hfz25_0:=blk_frozen BK459.out 0
     have hfz25_1:=blk_frozen BK459.out 1
     have hfz25_2:=blk_frozen BK459.out 2
     have hfz25_3:=blk_frozen BK459.out 3
     go_wp2_with (first|((with_reducible refine gate_callee (f:=80) rfl ?_);refine goesL_ (some 8) rfl rfl Tryz.func80 (by kernel_rfl) rfl #[.agg #[.int .i64 a0_0,.int .i64 a0_1,.int .i64 a0_2,.int .i64 a0_3],.agg #[.int .i64 a1_0,.int .i64 a1_1]] rfl (by (try simp only [List.map_toArray,List.map_cons,List.map_nil]);first|done|rfl|(simp only [List.length_drop,List.length_take];rfl)) ?_;(with_reducible refine (plane_segment_has.calls a0_0 a0_1 a0_2 a0_3 a1_0 a1_1 false _ A6.out).mono ?_);rintro e w26 ⟨rfl,hb⟩;refine ⟨_,rfl,?_⟩;have n0_:=Aside0.mk (blk_below (g:=gb458) (o:=.cells #[.int .i64 a0_0,.int .i64 a0_1,.int .i64 a0_2,.int .i64 a0_3] 178 (0,0)) (by (with_reducible repeat (first|refine blk_drewN ?_ _|refine blk_drew ?_|refine blk_alloc ?_ _));exact BK458.out) hb);have n1_:=Aside0.mk (blk_below (g:=gb459) (o:=.cells #[.int .i64 a1_0,.int .i64 a1_1,.int .i64 a1_2,.int .i64 a1_3] 178 (0,0)) (by (with_reducible repeat (first|refine blk_drewN ?_ _|refine blk_drew ?_|refine blk_alloc ?_ _));exact BK459.out) hb);have n2_:=Aside0.mk (below_step (by repeat (first|(with_reducible first|exact HB.out|apply below_alloc|apply pw_below_drewN|apply below_drew1|refine below_set ?_ GE458.out|refine below_set ?_ GE459.out)|exact HB.out)) hb);clear BK458;clear BK459;clear HB;have BK458:=n0_;have BK459:=n1_;have HB:=n2_;clear n0_ n1_ n2_;(try clear hb);(try clear hb2);(try clear hk);(try clear hi);have hcz27_0:w26.cell? ⟨gb458,0,none⟩=some (.int .i64 a0_0):=(blk_cell BK458.out 0).trans rfl;have hcz27_1:w26.cell? ⟨gb458,1,none⟩=some (.int .i64 a0_1):=(blk_cell BK458.out 1).trans rfl;have hcz27_2:w26.cell? ⟨gb458,2,none⟩=some (.int .i64 a0_2):=(blk_cell BK458.out 2).trans rfl;have hcz27_3:w26.cell? ⟨gb458,3,none⟩=some (.int .i64 a0_3):=(blk_cell BK458.out 3).trans rfl;have hfz27_0:=blk_frozen BK458.out 0;have hfz27_1:=blk_frozen BK458.out 1;have hfz27_2:=blk_frozen BK458.out 2;have hfz27_3:=blk_frozen BK458.out 3;have hcz28_0:w26.cell? ⟨gb459,0,none⟩=some (.int .i64 a1_0):=(blk_cell BK459.out 0).trans rfl;have hcz28_1:w26.cell? ⟨gb459,1,none⟩=some (.int .i64 a1_1):=(blk_cell BK459.out 1).trans rfl;have hcz28_2:w26.cell? ⟨gb459,2,none⟩=some (.int .i64 a1_2):=(blk_cell BK459.out 2).trans rfl;have hcz28_3:w26.cell? ⟨gb459,3,none⟩=some (.int .i64 a1_3):=(blk_cell BK459.out 3).trans rfl;have hfz28_0:=blk_frozen BK459.out 0;have hfz28_1:=blk_frozen BK459.out 1;have hfz28_2:=blk_frozen BK459.out 2;have hfz28_3:=blk_frozen BK459.out 3)|(go_at_call 80;(with_reducible refine (plane_segment_has.calls a0_0 a0_1 a0_2 a0_3 a1_2 a1_3 false _ A12.out).mono ?_);rintro e w29 ⟨rfl,hb⟩;have n0_:=Aside0.mk (blk_below (g:=gb458) (o:=.cells #[.int .i64 a0_0,.int .i64 a0_1,.int .i64 a0_2,.int .i64 a0_3] 178 (0,0)) (by (with_reducible repeat (first|refine blk_drewN ?_ _|refine blk_drew ?_|refine blk_alloc ?_ _));exact BK458.out) hb);have n1_:=Aside0.mk (blk_below (g:=gb459) (o:=.cells #[.int .i64 a1_0,.int .i64 a1_1,.int .i64 a1_2,.int .i64 a1_3] 178 (0,0)) (by (with_reducible repeat (first|refine blk_drewN ?_ _|refine blk_drew ?_|refine blk_alloc ?_ _));exact BK459.out) hb);have n2_:=Aside0.mk (below_step (by repeat (first|(with_reducible first|exact HB.out|apply below_alloc|apply pw_below_drewN|apply below_drew1|refine below_set ?_ GE458.out|refine below_set ?_ GE459.out)|exact HB.out)) hb);clear BK458;clear BK459;clear HB;have BK458:=n0_;have BK459:=n1_;have HB:=n2_;clear n0_ n1_ n2_;(try clear hb);(try clear hb2);(try clear hk);(try clear hi);have hcz30_0:w29.cell? ⟨gb459,0,none⟩=some (.int .i64 a1_0):=(blk_cell BK459.out 0).trans rfl;have hcz30_1:w29.cell? ⟨gb459,1,none⟩=some (.int .i64 a1_1):=(blk_cell BK459.out 1).trans rfl;have hcz30_2:w29.cell? ⟨gb459,2,none⟩=some (.int .i64 a1_2):=(blk_cell BK459.out 2).trans rfl;have hcz30_3:w29.cell? ⟨gb459,3,none⟩=some (.int .i64 a1_3):=(blk_cell BK459.out 3).trans rfl;have hfz30_0:=blk_frozen BK459.out 0;have hfz30_1:=blk_frozen BK459.out 1;have hfz30_2:=blk_frozen BK459.out 2;have hfz30_3:=blk_frozen BK459.out 3;have hcz31_0:w29.cell? ⟨gb458,0,none⟩=some (.int .i64 a0_0):=(blk_cell BK458.out 0).trans rfl;have hcz31_1:w29.cell? ⟨gb458,1,none⟩=some (.int .i64 a0_1):=(blk_cell BK458.out 1).trans rfl;have hcz31_2:w29.cell? ⟨gb458,2,none⟩=some (.int .i64 a0_2):=(blk_cell BK458.out 2).trans rfl;have hcz31_3:w29.cell? ⟨gb458,3,none⟩=some (.int .i64 a0_3):=(blk_cell BK458.out 3).trans rfl;have hfz31_0:=blk_frozen BK458.out 0;have hfz31_1:=blk_frozen BK458.out 1;have hfz31_2:=blk_frozen BK458.out 2;have hfz31_3:=blk_frozen BK458.out 3)|(go_at_call 80;(with_reducible refine (plane_segment_has.calls a1_0 a1_1 a1_2 a1_3 a0_0 a0_1 true _ A21.out).mono ?_);rintro e w32 ⟨rfl,hb⟩;have n0_:=Aside0.mk (blk_below (g:=gb458) (o:=.cells #[.int .i64 a0_0,.int .i64 a0_1,.int .i64 a0_2,.int .i64 a0_3] 178 (0,0)) (by (with_reducible repeat (first|refine blk_drewN ?_ _|refine blk_drew ?_|refine blk_alloc ?_ _));exact BK458.out) hb);have n1_:=Aside0.mk (blk_below (g:=gb459) (o:=.cells #[.int .i64 a1_0,.int .i64 a1_1,.int .i64 a1_2,.int .i64 a1_3] 178 (0,0)) (by (with_reducible repeat (first|refine blk_drewN ?_ _|refine blk_drew ?_|refine blk_alloc ?_ _));exact BK459.out) hb);have n2_:=Aside0.mk (below_step (by repeat (first|(with_reducible first|exact HB.out|apply below_alloc|apply pw_below_drewN|apply below_drew1|refine below_set ?_ GE458.out|refine below_set ?_ GE459.out)|exact HB.out)) hb);clear BK458;clear BK459;clear HB;have BK458:=n0_;have BK459:=n1_;have HB:=n2_;clear n0_ n1_ n2_;(try clear hb);(try clear hb2);(try clear hk);(try clear hi)))
     go_meet
     case rel=>exact ⟨_,(true),(by first|rfl|(simp;done)|(simp [*];done)),H',⟨by first|omega|exact Nat.le_refl _⟩,⟨by (with_reducible repeat (first|refine blk_drewN ?_ _|refine blk_drew ?_|refine blk_alloc ?_ _));exact BK458.out⟩,⟨by (with_reducible repeat (first|refine blk_drewN ?_ _|refine blk_drew ?_|refine blk_alloc ?_ _));exact BK459.out⟩,⟨by repeat (first|(with_reducible first|exact HB.out|apply below_alloc|apply pw_below_drewN|apply below_drew1|refine below_set ?_ GE458.out|refine below_set ?_ GE459.out)|exact HB.out)⟩⟩
    ·replace c22:=Bool.eq_false_iff.mpr c22
     subst c22
     have H1:((plane_segment_has.f a1_0 a1_1 a1_2 a1_3 a0_2 a0_3).bind fun t463=>(plane_segment_meets.j0 k t463 a0_0 a0_1 a0_2 a0_3 a1_0 a1_1 a1_2 a1_3))=some r:=by rw [if_neg (show ¬ (false=true) by decide)] at H;exact H
     clear H
     have H:=H1
     clear H1
     replace H:=Option.bind_eq_some_iff.mp H
     obtain ⟨t463,A330,H⟩:=H
     replace H:(plane_segment_meets.j0 k t463 a0_0 a0_1 a0_2 a0_3 a1_0 a1_1 a1_2 a1_3)=some r:=H
     have A33:=Aside0.mk A330;(try simp only [Int.toNat_natCast] at A33)
     clear A330
     have H':=Aside0.mk H
     clear H
     have hnb34:=NB458_459.out
     have hnc34:=NB459_458.out
     have hcz35_0:w5.cell? ⟨gb458,0,none⟩=some (.int .i64 a0_0):=(blk_cell BK458.out 0).trans rfl
     have hcz35_1:w5.cell? ⟨gb458,1,none⟩=some (.int .i64 a0_1):=(blk_cell BK458.out 1).trans rfl
     have hcz35_2:w5.cell? ⟨gb458,2,none⟩=some (.int .i64 a0_2):=(blk_cell BK458.out 2).trans rfl
     have hcz35_3:w5.cell? ⟨gb458,3,none⟩=some (.int .i64 a0_3):=(blk_cell BK458.out 3).trans rfl
     have hfz35_0:=blk_frozen BK458.out 0
     have hfz35_1:=blk_frozen BK458.out 1
     have hfz35_2:=blk_frozen BK458.out 2
     have hfz35_3:=blk_frozen BK458.out 3
     have hcz36_0:w5.cell? ⟨gb459,0,none⟩=some (.int .i64 a1_0):=(blk_cell BK459.out 0).trans rfl
     have hcz36_1:w5.cell? ⟨gb459,1,none⟩=some (.int .i64 a1_1):=(blk_cell BK459.out 1).trans rfl
     have hcz36_2:w5.cell? ⟨gb459,2,none⟩=some (.int .i64 a1_2):=(blk_cell BK459.out 2).trans rfl
     have hcz36_3:w5.cell? ⟨gb459,3,none⟩=some (.int .i64 a1_3):=(blk_cell BK459.out 3).trans rfl
     have hfz36_0:=blk_frozen BK459.out 0
     have hfz36_1:=blk_frozen BK459.out 1
     have hfz36_2:=blk_frozen BK459.out 2
     have hfz36_3:=blk_frozen BK459.out 3
     go_wp2_with (first|((with_reducible refine gate_callee (f:=80) rfl ?_);refine goesL_ (some 8) rfl rfl Tryz.func80 (by kernel_rfl) rfl #[.agg #[.int .i64 a0_0,.int .i64 a0_1,.int .i64 a0_2,.int .i64 a0_3],.agg #[.int .i64 a1_0,.int .i64 a1_1]] rfl (by (try simp only [List.map_toArray,List.map_cons,List.map_nil]);first|done|rfl|(simp only [List.length_drop,List.length_take];rfl)) ?_;(with_reducible refine (plane_segment_has.calls a0_0 a0_1 a0_2 a0_3 a1_0 a1_1 false _ A6.out).mono ?_);rintro e w37 ⟨rfl,hb⟩;refine ⟨_,rfl,?_⟩;have n0_:=Aside0.mk (blk_below (g:=gb458) (o:=.cells #[.int .i64 a0_0,.int .i64 a0_1,.int .i64 a0_2,.int .i64 a0_3] 178 (0,0)) (by (with_reducible repeat (first|refine blk_drewN ?_ _|refine blk_drew ?_|refine blk_alloc ?_ _));exact BK458.out) hb);have n1_:=Aside0.mk (blk_below (g:=gb459) (o:=.cells #[.int .i64 a1_0,.int .i64 a1_1,.int .i64 a1_2,.int .i64 a1_3] 178 (0,0)) (by (with_reducible repeat (first|refine blk_drewN ?_ _|refine blk_drew ?_|refine blk_alloc ?_ _));exact BK459.out) hb);have n2_:=Aside0.mk (below_step (by repeat (first|(with_reducible first|exact HB.out|apply below_alloc|apply pw_below_drewN|apply below_drew1|refine below_set ?_ GE458.out|refine below_set ?_ GE459.out)|exact HB.out)) hb);clear BK458;clear BK459;clear HB;have BK458:=n0_;have BK459:=n1_;have HB:=n2_;clear n0_ n1_ n2_;(try clear hb);(try clear hb2);(try clear hk);(try clear hi);have hcz38_0:w37.cell? ⟨gb458,0,none⟩=some (.int .i64 a0_0):=(blk_cell BK458.out 0).trans rfl;have hcz38_1:w37.cell? ⟨gb458,1,none⟩=some (.int .i64 a0_1):=(blk_cell BK458.out 1).trans rfl;have hcz38_2:w37.cell? ⟨gb458,2,none⟩=some (.int .i64 a0_2):=(blk_cell BK458.out 2).trans rfl;have hcz38_3:w37.cell? ⟨gb458,3,none⟩=some (.int .i64 a0_3):=(blk_cell BK458.out 3).trans rfl;have hfz38_0:=blk_frozen BK458.out 0;have hfz38_1:=blk_frozen BK458.out 1;have hfz38_2:=blk_frozen BK458.out 2;have hfz38_3:=blk_frozen BK458.out 3;have hcz39_0:w37.cell? ⟨gb459,0,none⟩=some (.int .i64 a1_0):=(blk_cell BK459.out 0).trans rfl;have hcz39_1:w37.cell? ⟨gb459,1,none⟩=some (.int .i64 a1_1):=(blk_cell BK459.out 1).trans rfl;have hcz39_2:w37.cell? ⟨gb459,2,none⟩=some (.int .i64 a1_2):=(blk_cell BK459.out 2).trans rfl;have hcz39_3:w37.cell? ⟨gb459,3,none⟩=some (.int .i64 a1_3):=(blk_cell BK459.out 3).trans rfl;have hfz39_0:=blk_frozen BK459.out 0;have hfz39_1:=blk_frozen BK459.out 1;have hfz39_2:=blk_frozen BK459.out 2;have hfz39_3:=blk_frozen BK459.out 3)|(go_at_call 80;(with_reducible refine (plane_segment_has.calls a0_0 a0_1 a0_2 a0_3 a1_2 a1_3 false _ A12.out).mono ?_);rintro e w40 ⟨rfl,hb⟩;have n0_:=Aside0.mk (blk_below (g:=gb458) (o:=.cells #[.int .i64 a0_0,.int .i64 a0_1,.int .i64 a0_2,.int .i64 a0_3] 178 (0,0)) (by (with_reducible repeat (first|refine blk_drewN ?_ _|refine blk_drew ?_|refine blk_alloc ?_ _));exact BK458.out) hb);have n1_:=Aside0.mk (blk_below (g:=gb459) (o:=.cells #[.int .i64 a1_0,.int .i64 a1_1,.int .i64 a1_2,.int .i64 a1_3] 178 (0,0)) (by (with_reducible repeat (first|refine blk_drewN ?_ _|refine blk_drew ?_|refine blk_alloc ?_ _));exact BK459.out) hb);have n2_:=Aside0.mk (below_step (by repeat (first|(with_reducible first|exact HB.out|apply below_alloc|apply pw_below_drewN|apply below_drew1|refine below_set ?_ GE458.out|refine below_set ?_ GE459.out)|exact HB.out)) hb);clear BK458;clear BK459;clear HB;have BK458:=n0_;have BK459:=n1_;have HB:=n2_;clear n0_ n1_ n2_;(try clear hb);(try clear hb2);(try clear hk);(try clear hi);have hcz41_0:w40.cell? ⟨gb459,0,none⟩=some (.int .i64 a1_0):=(blk_cell BK459.out 0).trans rfl;have hcz41_1:w40.cell? ⟨gb459,1,none⟩=some (.int .i64 a1_1):=(blk_cell BK459.out 1).trans rfl;have hcz41_2:w40.cell? ⟨gb459,2,none⟩=some (.int .i64 a1_2):=(blk_cell BK459.out 2).trans rfl;have hcz41_3:w40.cell? ⟨gb459,3,none⟩=some (.int .i64 a1_3):=(blk_cell BK459.out 3).trans rfl;have hfz41_0:=blk_frozen BK459.out 0;have hfz41_1:=blk_frozen BK459.out 1;have hfz41_2:=blk_frozen BK459.out 2;have hfz41_3:=blk_frozen BK459.out 3;have hcz42_0:w40.cell? ⟨gb458,0,none⟩=some (.int .i64 a0_0):=(blk_cell BK458.out 0).trans rfl;have hcz42_1:w40.cell? ⟨gb458,1,none⟩=some (.int .i64 a0_1):=(blk_cell BK458.out 1).trans rfl;have hcz42_2:w40.cell? ⟨gb458,2,none⟩=some (.int .i64 a0_2):=(blk_cell BK458.out 2).trans rfl;have hcz42_3:w40.cell? ⟨gb458,3,none⟩=some (.int .i64 a0_3):=(blk_cell BK458.out 3).trans rfl;have hfz42_0:=blk_frozen BK458.out 0;have hfz42_1:=blk_frozen BK458.out 1;have hfz42_2:=blk_frozen BK458.out 2;have hfz42_3:=blk_frozen BK458.out 3)|(go_at_call 80;(with_reducible refine (plane_segment_has.calls a1_0 a1_1 a1_2 a1_3 a0_0 a0_1 false _ A21.out).mono ?_);rintro e w43 ⟨rfl,hb⟩;have n0_:=Aside0.mk (blk_below (g:=gb458) (o:=.cells #[.int .i64 a0_0,.int .i64 a0_1,.int .i64 a0_2,.int .i64 a0_3] 178 (0,0)) (by (with_reducible repeat (first|refine blk_drewN ?_ _|refine blk_drew ?_|refine blk_alloc ?_ _));exact BK458.out) hb);have n1_:=Aside0.mk (blk_below (g:=gb459) (o:=.cells #[.int .i64 a1_0,.int .i64 a1_1,.int .i64 a1_2,.int .i64 a1_3] 178 (0,0)) (by (with_reducible repeat (first|refine blk_drewN ?_ _|refine blk_drew ?_|refine blk_alloc ?_ _));exact BK459.out) hb);have n2_:=Aside0.mk (below_step (by repeat (first|(with_reducible first|exact HB.out|apply below_alloc|apply pw_below_drewN|apply below_drew1|refine below_set ?_ GE458.out|refine below_set ?_ GE459.out)|exact HB.out)) hb);clear BK458;clear BK459;clear HB;have BK458:=n0_;have BK459:=n1_;have HB:=n2_;clear n0_ n1_ n2_;(try clear hb);(try clear hb2);(try clear hk);(try clear hi);have hcz44_0:w43.cell? ⟨gb459,0,none⟩=some (.int .i64 a1_0):=(blk_cell BK459.out 0).trans rfl;have hcz44_1:w43.cell? ⟨gb459,1,none⟩=some (.int .i64 a1_1):=(blk_cell BK459.out 1).trans rfl;have hcz44_2:w43.cell? ⟨gb459,2,none⟩=some (.int .i64 a1_2):=(blk_cell BK459.out 2).trans rfl;have hcz44_3:w43.cell? ⟨gb459,3,none⟩=some (.int .i64 a1_3):=(blk_cell BK459.out 3).trans rfl;have hfz44_0:=blk_frozen BK459.out 0;have hfz44_1:=blk_frozen BK459.out 1;have hfz44_2:=blk_frozen BK459.out 2;have hfz44_3:=blk_frozen BK459.out 3;have hcz45_0:w43.cell? ⟨gb458,0,none⟩=some (.int .i64 a0_0):=(blk_cell BK458.out 0).trans rfl;have hcz45_1:w43.cell? ⟨gb458,1,none⟩=some (.int .i64 a0_1):=(blk_cell BK458.out 1).trans rfl;have hcz45_2:w43.cell? ⟨gb458,2,none⟩=some (.int .i64 a0_2):=(blk_cell BK458.out 2).trans rfl;have hcz45_3:w43.cell? ⟨gb458,3,none⟩=some (.int .i64 a0_3):=(blk_cell BK458.out 3).trans rfl;have hfz45_0:=blk_frozen BK458.out 0;have hfz45_1:=blk_frozen BK458.out 1;have hfz45_2:=blk_frozen BK458.out 2;have hfz45_3:=blk_frozen BK458.out 3)|(go_at_call 80;(with_reducible refine (plane_segment_has.calls a1_0 a1_1 a1_2 a1_3 a0_2 a0_3 t463 _ A33.out).mono ?_);rintro e w46 ⟨rfl,hb⟩;have n0_:=Aside0.mk (blk_below (g:=gb458) (o:=.cells #[.int .i64 a0_0,.int .i64 a0_1,.int .i64 a0_2,.int .i64 a0_3] 178 (0,0)) (by (with_reducible repeat (first|refine blk_drewN ?_ _|refine blk_drew ?_|refine blk_alloc ?_ _));exact BK458.out) hb);have n1_:=Aside0.mk (blk_below (g:=gb459) (o:=.cells #[.int .i64 a1_0,.int .i64 a1_1,.int .i64 a1_2,.int .i64 a1_3] 178 (0,0)) (by (with_reducible repeat (first|refine blk_drewN ?_ _|refine blk_drew ?_|refine blk_alloc ?_ _));exact BK459.out) hb);have n2_:=Aside0.mk (below_step (by repeat (first|(with_reducible first|exact HB.out|apply below_alloc|apply pw_below_drewN|apply below_drew1|refine below_set ?_ GE458.out|refine below_set ?_ GE459.out)|exact HB.out)) hb);clear BK458;clear BK459;clear HB;have BK458:=n0_;have BK459:=n1_;have HB:=n2_;clear n0_ n1_ n2_;(try clear hb);(try clear hb2);(try clear hk);(try clear hi)))
     go_meet
     case rel=>exact ⟨_,(t463),(by first|rfl|(simp;done)|(simp [*];done)),H',⟨by first|omega|exact Nat.le_refl _⟩,⟨by (with_reducible repeat (first|refine blk_drewN ?_ _|refine blk_drew ?_|refine blk_alloc ?_ _));exact BK458.out⟩,⟨by (with_reducible repeat (first|refine blk_drewN ?_ _|refine blk_drew ?_|refine blk_alloc ?_ _));exact BK459.out⟩,⟨by repeat (first|(with_reducible first|exact HB.out|apply below_alloc|apply pw_below_drewN|apply below_drew1|refine below_set ?_ GE458.out|refine below_set ?_ GE459.out)|exact HB.out)⟩⟩
 case rest =>
  clear HC3
  try clear c1
  try clear c2
  try clear p2
  try clear c3
  try clear c7
  try clear c8
  try clear c13
  try clear c14
  try clear c22
  try clear c23
  try clear c34
  try clear hcz10_0
  try clear hcz10_1
  try clear hcz10_2
  try clear hcz10_3
  try clear hcz15_0
  try clear hcz15_1
  try clear hcz15_2
  try clear hcz15_3
  try clear hcz16_0
  try clear hcz16_1
  try clear hcz16_2
  try clear hcz16_3
  try clear hcz18_0
  try clear hcz18_1
  try clear hcz18_2
  try clear hcz18_3
  try clear hcz19_0
  try clear hcz19_1
  try clear hcz19_2
  try clear hcz19_3
  try clear hcz24_0
  try clear hcz24_1
  try clear hcz24_2
  try clear hcz24_3
  try clear hcz25_0
  try clear hcz25_1
  try clear hcz25_2
  try clear hcz25_3
  try clear hcz27_0
  try clear hcz27_1
  try clear hcz27_2
  try clear hcz27_3
  try clear hcz28_0
  try clear hcz28_1
  try clear hcz28_2
  try clear hcz28_3
  try clear hcz30_0
  try clear hcz30_1
  try clear hcz30_2
  try clear hcz30_3
  try clear hcz31_0
  try clear hcz31_1
  try clear hcz31_2
  try clear hcz31_3
  try clear hcz35_0
  try clear hcz35_1
  try clear hcz35_2
  try clear hcz35_3
  try clear hcz36_0
  try clear hcz36_1
  try clear hcz36_2
  try clear hcz36_3
  try clear hcz38_0
  try clear hcz38_1
  try clear hcz38_2
  try clear hcz38_3
  try clear hcz39_0
  try clear hcz39_1
  try clear hcz39_2
  try clear hcz39_3
  try clear hcz41_0
  try clear hcz41_1
  try clear hcz41_2
  try clear hcz41_3
  try clear hcz42_0
  try clear hcz42_1
  try clear hcz42_2
  try clear hcz42_3
  try clear hcz44_0
  try clear hcz44_1
  try clear hcz44_2
  try clear hcz44_3
  try clear hcz45_0
  try clear hcz45_1
  try clear hcz45_2
  try clear hcz45_3
  try clear hcz9_0
  try clear hcz9_1
  try clear hcz9_2
  try clear hcz9_3
  try clear hfz10_0
  try clear hfz10_1
  try clear hfz10_2
  try clear hfz10_3
  try clear hfz15_0
  try clear hfz15_1
  try clear hfz15_2
  try clear hfz15_3
  try clear hfz16_0
  try clear hfz16_1
  try clear hfz16_2
  try clear hfz16_3
  try clear hfz18_0
  try clear hfz18_1
  try clear hfz18_2
  try clear hfz18_3
  try clear hfz19_0
  try clear hfz19_1
  try clear hfz19_2
  try clear hfz19_3
  try clear hfz24_0
  try clear hfz24_1
  try clear hfz24_2
  try clear hfz24_3
  try clear hfz25_0
  try clear hfz25_1
  try clear hfz25_2
  try clear hfz25_3
  try clear hfz27_0
  try clear hfz27_1
  try clear hfz27_2
  try clear hfz27_3
  try clear hfz28_0
  try clear hfz28_1
  try clear hfz28_2
  try clear hfz28_3
  try clear hfz30_0
  try clear hfz30_1
  try clear hfz30_2
  try clear hfz30_3
  try clear hfz31_0
  try clear hfz31_1
  try clear hfz31_2
  try clear hfz31_3
  try clear hfz35_0
  try clear hfz35_1
  try clear hfz35_2
  try clear hfz35_3
  try clear hfz36_0
  try clear hfz36_1
  try clear hfz36_2
  try clear hfz36_3
  try clear hfz38_0
  try clear hfz38_1
  try clear hfz38_2
  try clear hfz38_3
  try clear hfz39_0
  try clear hfz39_1
  try clear hfz39_2
  try clear hfz39_3
  try clear hfz41_0
  try clear hfz41_1
  try clear hfz41_2
  try clear hfz41_3
  try clear hfz42_0
  try clear hfz42_1
  try clear hfz42_2
  try clear hfz42_3
  try clear hfz44_0
  try clear hfz44_1
  try clear hfz44_2
  try clear hfz44_3
  try clear hfz45_0
  try clear hfz45_1
  try clear hfz45_2
  try clear hfz45_3
  try clear hfz9_0
  try clear hfz9_1
  try clear hfz9_2
  try clear hfz9_3
  obtain ⟨kq,x26_2,rfl,HA,HJ2,BK458,BK459,HB⟩:=hcut
  cases kq with
  | zero=>exact absurd HA.out (by simp [plane_segment_meets.j0])
  | succ kj2 =>
   have H:=HA.out
   clear HA
   simp only [plane_segment_meets.j0] at H
   by_cases c47:x26_2=true
   ·subst c47
    have H1:(some true)=some r:=by rw [if_pos rfl] at H;exact H
    clear H
    have H:=H1
    clear H1
    obtain rfl:=Option.some.inj H
    go_wp2
    go_ret
    exact ⟨by first|rfl|(simp [errW_none,errW_some] <;> rfl)|(simp [*,errW_none,errW_some] <;> rfl),by repeat (first|(with_reducible first|exact HB.out|apply below_alloc|apply pw_below_drewN|apply below_drew1|refine below_set ?_ GE458.out|refine below_set ?_ GE459.out)|exact HB.out)⟩
   ·replace c47:=Bool.eq_false_iff.mpr c47
    subst c47
    have H1:((plane_turn.f a0_0 a0_1 a0_2 a0_3 a1_0 a1_1).bind fun t464=>((plane_turn.f a0_0 a0_1 a0_2 a0_3 a1_2 a1_3).bind fun t465=>(if (wrap64 (t464*t465))<0 then ((plane_turn.f a1_0 a1_1 a1_2 a1_3 a0_0 a0_1).bind fun t466=>((plane_turn.f a1_0 a1_1 a1_2 a1_3 a0_2 a0_3).bind fun t467=>(some (decide ((wrap64 (t466*t467))<0))))) else (some false))))=some r:=by rw [if_neg (show ¬ (false=true) by decide)] at H;exact H
    clear H
    have H:=H1
    clear H1
    replace H:=Option.bind_eq_some_iff.mp H
    obtain ⟨t464,A480,H⟩:=H
    replace H:((plane_turn.f a0_0 a0_1 a0_2 a0_3 a1_2 a1_3).bind fun t465=>(if (wrap64 (t464*t465))<0 then ((plane_turn.f a1_0 a1_1 a1_2 a1_3 a0_0 a0_1).bind fun t466=>((plane_turn.f a1_0 a1_1 a1_2 a1_3 a0_2 a0_3).bind fun t467=>(some (decide ((wrap64 (t466*t467))<0))))) else (some false)))=some r:=H
    have A48:=Aside0.mk A480;(try simp only [Int.toNat_natCast] at A48)
    clear A480
    replace H:=Option.bind_eq_some_iff.mp H
    obtain ⟨t465,A490,H⟩:=H
    replace H:(if (wrap64 (t464*t465))<0 then ((plane_turn.f a1_0 a1_1 a1_2 a1_3 a0_0 a0_1).bind fun t466=>((plane_turn.f a1_0 a1_1 a1_2 a1_3 a0_2 a0_3).bind fun t467=>(some (decide ((wrap64 (t466*t467))<0))))) else (some false))=some r:=H
    have A49:=Aside0.mk A490;(try simp only [Int.toNat_natCast] at A49)
    clear A490
    by_cases c50:(wrap64 (t464*t465))<0
    ·rw [if_pos c50] at H
     have c50b0:decide ((wrap64 (t464*t465))<0)=true:=decide_eq_true c50
     clear c50
     replace H:=Option.bind_eq_some_iff.mp H
     obtain ⟨t466,A510,H⟩:=H
     replace H:((plane_turn.f a1_0 a1_1 a1_2 a1_3 a0_2 a0_3).bind fun t467=>(some (decide ((wrap64 (t466*t467))<0))))=some r:=H
     have A51:=Aside0.mk A510;(try simp only [Int.toNat_natCast] at A51)
     clear A510
     replace H:=Option.bind_eq_some_iff.mp H
     obtain ⟨t467,A520,H⟩:=H
     replace H:(some (decide ((wrap64 (t466*t467))<0)))=some r:=H
     have A52:=Aside0.mk A520;(try simp only [Int.toNat_natCast] at A52)
     clear A520
     obtain rfl:=Option.some.inj H
     try go_wp2
     have n0_:=Aside0.mk (blk_drew BK458.out)
     have n1_:=Aside0.mk (blk_drew BK459.out)
     have n2_:=Aside0.mk (below_drew1 HB.out)
     clear BK458
     clear BK459
     clear HB
     have BK458:=n0_
     have BK459:=n1_
     have HB:=n2_
     clear n0_ n1_ n2_
     refine start_ (n:=35) (S:=fun w'=>w'.cell? ⟨gb458,0,none⟩=some (.int .i64 a0_0)∧w'.cell? ⟨gb458,1,none⟩=some (.int .i64 a0_1)∧w'.cell? ⟨gb458,2,none⟩=some (.int .i64 a0_2)∧w'.cell? ⟨gb458,3,none⟩=some (.int .i64 a0_3)∧w'.cell? ⟨gb459,0,none⟩=some (.int .i64 a1_0)∧w'.cell? ⟨gb459,1,none⟩=some (.int .i64 a1_1)∧w'.cell? ⟨gb459,2,none⟩=some (.int .i64 a1_2)∧w'.cell? ⟨gb459,3,none⟩=some (.int .i64 a1_3)) (ds:=[]) #[false,false,false,false,false,false,false,false,false,false,false,false,false,false,false,false,false,false,false,false,false,false,false,false,false,false,false,false,false,false,false,false,false,false,false] (by kernel_rfl) rfl rfl ⟨(blk_cell BK458.out 0).trans rfl,(blk_cell BK458.out 1).trans rfl,(blk_cell BK458.out 2).trans rfl,(blk_cell BK458.out 3).trans rfl,(blk_cell BK459.out 0).trans rfl,(blk_cell BK459.out 1).trans rfl,(blk_cell BK459.out 2).trans rfl,(blk_cell BK459.out 3).trans rfl⟩ (fun hHeld=>?_);refine with_tabW plane_segment_meets.tab3 plane_segment_meets.bits3 (fun HT_ HW_=>?_)
     generalize wc.drew=w53 at BK458 BK459 HB hHeld ⊢
     refine pure_ (i:=0) (N:=some 27) (v:=?_) (a':=?_) #[true,false,false,false,false,false,false,false,false,false,false,false,false,false,false,false,false,false,false,false,false,false,false,false,false,false,false,false,false,false,false,false,false,false,false] rfl rfl (any_of HT_.out (by kernel_rfl)) (fun _ _ _ h=>h) (Or.inl ⟨by rfl,?_⟩) ?_ ?_
     rotate_left
     ·intro w'
      go_simp
      with_reducible rfl
     rotate_left
     ·simp only [Act.put,sp__,i64_w,i32_w]
      rfl
     refine pure_ (i:=2) (N:=some 29) (v:=?_) (a':=?_) #[true,false,true,false,false,false,false,false,false,false,false,false,false,false,false,false,false,false,false,false,false,false,false,false,false,false,false,false,false,false,false,false,false,false,false] rfl rfl (any_of HT_.out (by kernel_rfl)) (fun _ _ _ h=>h) (Or.inl ⟨by rfl,?_⟩) ?_ ?_
     rotate_left
     ·intro w'
      go_simp
      with_reducible rfl
     rotate_left
     ·simp only [Act.put,sp__,i64_w,i32_w]
      rfl
     refine pure_ (i:=4) (N:=some 31) (v:=?_) (a':=?_) #[true,false,true,false,true,false,false,false,false,false,false,false,false,false,false,false,false,false,false,false,false,false,false,false,false,false,false,false,false,false,false,false,false,false,false] rfl rfl (any_of HT_.out (by kernel_rfl)) (fun _ _ _ h=>h) (Or.inl ⟨by rfl,?_⟩) ?_ ?_
     rotate_left
     ·intro w'
      go_simp
      with_reducible rfl
     rotate_left
     ·simp only [Act.put,sp__,i64_w,i32_w]
      rfl
     refine pure_ (i:=7) (N:=some 34) (v:=?_) (a':=?_) #[true,false,true,false,true,false,false,true,false,false,false,false,false,false,false,false,false,false,false,false,false,false,false,false,false,false,false,false,false,false,false,false,false,false,false] rfl rfl (any_of HT_.out (by kernel_rfl)) (fun _ _ _ h=>h) (Or.inl ⟨by rfl,?_⟩) ?_ ?_
     rotate_left
     ·intro w'
      go_simp
      with_reducible rfl
     rotate_left
     ·simp only [Act.put,sp__,i64_w,i32_w]
      rfl
     refine pure_ (i:=9) (N:=some 36) (v:=?_) (a':=?_) #[true,false,true,false,true,false,false,true,false,true,false,false,false,false,false,false,false,false,false,false,false,false,false,false,false,false,false,false,false,false,false,false,false,false,false] rfl rfl (any_of HT_.out (by kernel_rfl)) (fun _ _ _ h=>h) (Or.inl ⟨by rfl,?_⟩) ?_ ?_
     rotate_left
     ·intro w'
      go_simp
      with_reducible rfl
     rotate_left
     ·simp only [Act.put,sp__,i64_w,i32_w]
      rfl
     refine pure_ (i:=11) (N:=some 38) (v:=?_) (a':=?_) #[true,false,true,false,true,false,false,true,false,true,false,true,false,false,false,false,false,false,false,false,false,false,false,false,false,false,false,false,false,false,false,false,false,false,false] rfl rfl (any_of HT_.out (by kernel_rfl)) (fun _ _ _ h=>h) (Or.inl ⟨by rfl,?_⟩) ?_ ?_
     rotate_left
     ·intro w'
      go_simp
      with_reducible rfl
     rotate_left
     ·simp only [Act.put,sp__,i64_w,i32_w]
      rfl
     refine take_ (i:=1) (N:=some 28) (v:=?_) (a':=?_) #[true,true,true,false,true,false,false,true,false,true,false,true,false,false,false,false,false,false,false,false,false,false,false,false,false,false,false,false,false,false,false,false,false,false,false] rfl rfl (take_ofW HT_.out HW_.out (by kernel_rfl)) (fun _ _ _ h=>h) (Or.inl ⟨by rfl,?_⟩) hHeld ?_ ?_
     rotate_left
     ·rintro w' ⟨s0,s1,s2,s3,s4,s5,s6,s7⟩
      go_simp
      with_reducible rfl
     rotate_left
     ·simp only [Act.put,sp__,i64_w,i32_w]
      rfl
     refine take_ (i:=3) (N:=some 30) (v:=?_) (a':=?_) #[true,true,true,true,true,false,false,true,false,true,false,true,false,false,false,false,false,false,false,false,false,false,false,false,false,false,false,false,false,false,false,false,false,false,false] rfl rfl (take_ofW HT_.out HW_.out (by kernel_rfl)) (fun _ _ _ h=>h) (Or.inl ⟨by rfl,?_⟩) hHeld ?_ ?_
     rotate_left
     ·rintro w' ⟨s0,s1,s2,s3,s4,s5,s6,s7⟩
      go_simp
      with_reducible rfl
     rotate_left
     ·simp only [Act.put,sp__,i64_w,i32_w]
      rfl
     refine take_ (i:=5) (N:=some 32) (v:=?_) (a':=?_) #[true,true,true,true,true,true,false,true,false,true,false,true,false,false,false,false,false,false,false,false,false,false,false,false,false,false,false,false,false,false,false,false,false,false,false] rfl rfl (take_ofW HT_.out HW_.out (by kernel_rfl)) (fun _ _ _ h=>h) (Or.inl ⟨by rfl,?_⟩) hHeld ?_ ?_
     rotate_left
     ·rintro w' ⟨s0,s1,s2,s3,s4,s5,s6,s7⟩
      go_simp
      with_reducible rfl
     rotate_left
     ·simp only [Act.put,sp__,i64_w,i32_w]
      rfl
     refine take_ (i:=8) (N:=some 35) (v:=?_) (a':=?_) #[true,true,true,true,true,true,false,true,true,true,false,true,false,false,false,false,false,false,false,false,false,false,false,false,false,false,false,false,false,false,false,false,false,false,false] rfl rfl (take_ofW HT_.out HW_.out (by kernel_rfl)) (fun _ _ _ h=>h) (Or.inl ⟨by rfl,?_⟩) hHeld ?_ ?_
     rotate_left
     ·rintro w' ⟨s0,s1,s2,s3,s4,s5,s6,s7⟩
      go_simp
      with_reducible rfl
     rotate_left
     ·simp only [Act.put,sp__,i64_w,i32_w]
      rfl
     refine take_ (i:=10) (N:=some 37) (v:=?_) (a':=?_) #[true,true,true,true,true,true,false,true,true,true,true,true,false,false,false,false,false,false,false,false,false,false,false,false,false,false,false,false,false,false,false,false,false,false,false] rfl rfl (take_ofW HT_.out HW_.out (by kernel_rfl)) (fun _ _ _ h=>h) (Or.inl ⟨by rfl,?_⟩) hHeld ?_ ?_
     rotate_left
     ·rintro w' ⟨s0,s1,s2,s3,s4,s5,s6,s7⟩
      go_simp
      with_reducible rfl
     rotate_left
     ·simp only [Act.put,sp__,i64_w,i32_w]
      rfl
     refine take_ (i:=12) (N:=some 39) (v:=?_) (a':=?_) #[true,true,true,true,true,true,false,true,true,true,true,true,true,false,false,false,false,false,false,false,false,false,false,false,false,false,false,false,false,false,false,false,false,false,false] rfl rfl (take_ofW HT_.out HW_.out (by kernel_rfl)) (fun _ _ _ h=>h) (Or.inl ⟨by rfl,?_⟩) hHeld ?_ ?_
     rotate_left
     ·rintro w' ⟨s0,s1,s2,s3,s4,s5,s6,s7⟩
      go_simp
      with_reducible rfl
     rotate_left
     ·simp only [Act.put,sp__,i64_w,i32_w]
      rfl
     refine one_ (i:=6) (N:=some 33) #[true,true,true,true,true,true,true,true,true,true,true,true,true,false,false,false,false,false,false,false,false,false,false,false,false,false,false,false,false,false,false,false,false,false,false] rfl rfl (one_of HT_.out (by kernel_rfl)) (by decide) (fun K hK=>?_)
     refine goes_ Tryz.func114 (by kernel_rfl) rfl #[.agg #[.int .i64 a0_0,.int .i64 a0_1],.agg #[.int .i64 a0_2,.int .i64 a0_3],.agg #[.int .i64 a1_0,.int .i64 a1_1]] (by rfl) rfl rfl (by (try simp only [List.map_toArray,List.map_cons,List.map_nil]);first|done|rfl|(simp only [List.length_drop,List.length_take];rfl)) ?_
     with_reducible refine (plane_turn.calls a0_0 a0_1 a0_2 a0_3 a1_0 a1_1 t464 _ A48.out).mono ?_
     rintro e w54 ⟨rfl,hb⟩
     refine ⟨_,rfl,?_⟩
     have n0_:=Aside0.mk (blk_below (g:=gb458) (o:=.cells #[.int .i64 a0_0,.int .i64 a0_1,.int .i64 a0_2,.int .i64 a0_3] 178 (0,0)) (by (with_reducible repeat (first|refine blk_drewN ?_ _|refine blk_drew ?_|refine blk_alloc ?_ _));exact BK458.out) hb)
     have n1_:=Aside0.mk (blk_below (g:=gb459) (o:=.cells #[.int .i64 a1_0,.int .i64 a1_1,.int .i64 a1_2,.int .i64 a1_3] 178 (0,0)) (by (with_reducible repeat (first|refine blk_drewN ?_ _|refine blk_drew ?_|refine blk_alloc ?_ _));exact BK459.out) hb)
     have n2_:=Aside0.mk (below_step (by repeat (first|(with_reducible first|exact HB.out|apply below_alloc|apply pw_below_drewN|apply below_drew1|refine below_set ?_ GE458.out|refine below_set ?_ GE459.out)|exact HB.out)) hb)
     clear BK458
     clear BK459
     clear HB
     have BK458:=n0_
     have BK459:=n1_
     have HB:=n2_
     clear n0_ n1_ n2_
     (try clear hb)
     (try clear hb2)
     (try clear hk)
     (try clear hi)
     refine hK.out _ _ ⟨(blk_cell BK458.out 0).trans rfl,(blk_cell BK458.out 1).trans rfl,(blk_cell BK458.out 2).trans rfl,(blk_cell BK458.out 3).trans rfl,(blk_cell BK459.out 0).trans rfl,(blk_cell BK459.out 1).trans rfl,(blk_cell BK459.out 2).trans rfl,(blk_cell BK459.out 3).trans rfl⟩ (fun hHeld=>?_)
     clear hK K
     refine norm_ (a':=?_) ?_ ?_
     rotate_left
     ·show Act.put _ (some 33) _=_
      simp only [Act.put,sp__,i64_w,i32_w]
      rfl
     refine one_ (i:=13) (N:=some 40) #[true,true,true,true,true,true,true,true,true,true,true,true,true,true,false,false,false,false,false,false,false,false,false,false,false,false,false,false,false,false,false,false,false,false,false] rfl rfl (one_of HT_.out (by kernel_rfl)) (by decide) (fun K hK=>?_)
     refine goes_ Tryz.func114 (by kernel_rfl) rfl #[.agg #[.int .i64 a0_0,.int .i64 a0_1],.agg #[.int .i64 a0_2,.int .i64 a0_3],.agg #[.int .i64 a1_2,.int .i64 a1_3]] (by rfl) rfl rfl (by (try simp only [List.map_toArray,List.map_cons,List.map_nil]);first|done|rfl|(simp only [List.length_drop,List.length_take];rfl)) ?_
     with_reducible refine (plane_turn.calls a0_0 a0_1 a0_2 a0_3 a1_2 a1_3 t465 _ A49.out).mono ?_
     rintro e w55 ⟨rfl,hb⟩
     refine ⟨_,rfl,?_⟩
     have n0_:=Aside0.mk (blk_below (g:=gb458) (o:=.cells #[.int .i64 a0_0,.int .i64 a0_1,.int .i64 a0_2,.int .i64 a0_3] 178 (0,0)) (by (with_reducible repeat (first|refine blk_drewN ?_ _|refine blk_drew ?_|refine blk_alloc ?_ _));exact BK458.out) hb)
     have n1_:=Aside0.mk (blk_below (g:=gb459) (o:=.cells #[.int .i64 a1_0,.int .i64 a1_1,.int .i64 a1_2,.int .i64 a1_3] 178 (0,0)) (by (with_reducible repeat (first|refine blk_drewN ?_ _|refine blk_drew ?_|refine blk_alloc ?_ _));exact BK459.out) hb)
     have n2_:=Aside0.mk (below_step (by repeat (first|(with_reducible first|exact HB.out|apply below_alloc|apply pw_below_drewN|apply below_drew1|refine below_set ?_ GE458.out|refine below_set ?_ GE459.out)|exact HB.out)) hb)
     clear BK458
     clear BK459
     clear HB
     have BK458:=n0_
     have BK459:=n1_
     have HB:=n2_
     clear n0_ n1_ n2_
     (try clear hb)
     (try clear hb2)
     (try clear hk)
     (try clear hi)
     refine hK.out _ _ ⟨(blk_cell BK458.out 0).trans rfl,(blk_cell BK458.out 1).trans rfl,(blk_cell BK458.out 2).trans rfl,(blk_cell BK458.out 3).trans rfl,(blk_cell BK459.out 0).trans rfl,(blk_cell BK459.out 1).trans rfl,(blk_cell BK459.out 2).trans rfl,(blk_cell BK459.out 3).trans rfl⟩ (fun hHeld=>?_)
     clear hK K
     refine norm_ (a':=?_) ?_ ?_
     rotate_left
     ·show Act.put _ (some 40) _=_
      simp only [Act.put,sp__,i64_w,i32_w]
      rfl
     refine pure_ (i:=14) (N:=some 41) (v:=?_) (a':=?_) #[true,true,true,true,true,true,true,true,true,true,true,true,true,true,true,false,false,false,false,false,false,false,false,false,false,false,false,false,false,false,false,false,false,false,false] rfl rfl (any_of HT_.out (by kernel_rfl)) (fun _ _ _ h=>h) (Or.inl ⟨by rfl,?_⟩) ?_ ?_
     rotate_left
     ·intro w'
      go_simp
      with_reducible rfl
     rotate_left
     ·simp only [Act.put,sp__,i64_w,i32_w]
      rfl
     refine pure_ (i:=15) (N:=some 42) (v:=?_) (a':=?_) #[true,true,true,true,true,true,true,true,true,true,true,true,true,true,true,true,false,false,false,false,false,false,false,false,false,false,false,false,false,false,false,false,false,false,false] rfl rfl (any_of HT_.out (by kernel_rfl)) (fun _ _ _ h=>h) (Or.inl ⟨by rfl,?_⟩) ?_ ?_
     rotate_left
     ·intro w'
      go_simp
      with_reducible rfl
     rotate_left
     ·simp only [Act.put,sp__,i64_w,i32_w]
      rfl
     refine pure_ (i:=16) (N:=some 43) (v:=?_) (a':=?_) #[true,true,true,true,true,true,true,true,true,true,true,true,true,true,true,true,true,false,false,false,false,false,false,false,false,false,false,false,false,false,false,false,false,false,false] rfl rfl (any_of HT_.out (by kernel_rfl)) (fun _ _ _ h=>h) (Or.inl ⟨by rfl,?_⟩) ?_ ?_
     rotate_left
     ·intro w'
      go_simp
      with_reducible rfl
     rotate_left
     ·simp only [Act.put,sp__,i64_w,i32_w]
      rfl
     refine pure_ (i:=17) (N:=some 44) (v:=?_) (a':=?_) #[true,true,true,true,true,true,true,true,true,true,true,true,true,true,true,true,true,true,false,false,false,false,false,false,false,false,false,false,false,false,false,false,false,false,false] rfl rfl (any_of HT_.out (by kernel_rfl)) (fun _ _ _ h=>h) (Or.inl ⟨by rfl,?_⟩) ?_ ?_
     rotate_left
     ·intro w'
      go_simp
      with_reducible rfl
     rotate_left
     ·simp only [Act.put,sp__,i64_w,i32_w]
      rfl
     refine pure_ (i:=19) (N:=some 46) (v:=?_) (a':=?_) #[true,true,true,true,true,true,true,true,true,true,true,true,true,true,true,true,true,true,false,true,false,false,false,false,false,false,false,false,false,false,false,false,false,false,false] rfl rfl (any_of HT_.out (by kernel_rfl)) (fun _ _ _ h=>h) (Or.inl ⟨by rfl,?_⟩) ?_ ?_
     rotate_left
     ·intro w'
      go_simp
      with_reducible rfl
     rotate_left
     ·simp only [Act.put,sp__,i64_w,i32_w]
      rfl
     refine pure_ (i:=21) (N:=some 48) (v:=?_) (a':=?_) #[true,true,true,true,true,true,true,true,true,true,true,true,true,true,true,true,true,true,false,true,false,true,false,false,false,false,false,false,false,false,false,false,false,false,false] rfl rfl (any_of HT_.out (by kernel_rfl)) (fun _ _ _ h=>h) (Or.inl ⟨by rfl,?_⟩) ?_ ?_
     rotate_left
     ·intro w'
      go_simp
      with_reducible rfl
     rotate_left
     ·simp only [Act.put,sp__,i64_w,i32_w]
      rfl
     refine pure_ (i:=24) (N:=some 51) (v:=?_) (a':=?_) #[true,true,true,true,true,true,true,true,true,true,true,true,true,true,true,true,true,true,false,true,false,true,false,false,true,false,false,false,false,false,false,false,false,false,false] rfl rfl (any_of HT_.out (by kernel_rfl)) (fun _ _ _ h=>h) (Or.inl ⟨by rfl,?_⟩) ?_ ?_
     rotate_left
     ·intro w'
      go_simp
      with_reducible rfl
     rotate_left
     ·simp only [Act.put,sp__,i64_w,i32_w]
      rfl
     refine pure_ (i:=26) (N:=some 53) (v:=?_) (a':=?_) #[true,true,true,true,true,true,true,true,true,true,true,true,true,true,true,true,true,true,false,true,false,true,false,false,true,false,true,false,false,false,false,false,false,false,false] rfl rfl (any_of HT_.out (by kernel_rfl)) (fun _ _ _ h=>h) (Or.inl ⟨by rfl,?_⟩) ?_ ?_
     rotate_left
     ·intro w'
      go_simp
      with_reducible rfl
     rotate_left
     ·simp only [Act.put,sp__,i64_w,i32_w]
      rfl
     refine pure_ (i:=28) (N:=some 55) (v:=?_) (a':=?_) #[true,true,true,true,true,true,true,true,true,true,true,true,true,true,true,true,true,true,false,true,false,true,false,false,true,false,true,false,true,false,false,false,false,false,false] rfl rfl (any_of HT_.out (by kernel_rfl)) (fun _ _ _ h=>h) (Or.inl ⟨by rfl,?_⟩) ?_ ?_
     rotate_left
     ·intro w'
      go_simp
      with_reducible rfl
     rotate_left
     ·simp only [Act.put,sp__,i64_w,i32_w]
      rfl
     refine take_ (i:=18) (N:=some 45) (v:=?_) (a':=?_) #[true,true,true,true,true,true,true,true,true,true,true,true,true,true,true,true,true,true,true,true,false,true,false,false,true,false,true,false,true,false,false,false,false,false,false] rfl rfl (take_ofW HT_.out HW_.out (by kernel_rfl)) (fun _ _ _ h=>h) (Or.inl ⟨by rfl,?_⟩) hHeld ?_ ?_
     rotate_left
     ·rintro w' ⟨s0,s1,s2,s3,s4,s5,s6,s7⟩
      go_simp
      with_reducible rfl
     rotate_left
     ·simp only [Act.put,sp__,i64_w,i32_w]
      rfl
     refine take_ (i:=20) (N:=some 47) (v:=?_) (a':=?_) #[true,true,true,true,true,true,true,true,true,true,true,true,true,true,true,true,true,true,true,true,true,true,false,false,true,false,true,false,true,false,false,false,false,false,false] rfl rfl (take_ofW HT_.out HW_.out (by kernel_rfl)) (fun _ _ _ h=>h) (Or.inl ⟨by rfl,?_⟩) hHeld ?_ ?_
     rotate_left
     ·rintro w' ⟨s0,s1,s2,s3,s4,s5,s6,s7⟩
      go_simp
      with_reducible rfl
     rotate_left
     ·simp only [Act.put,sp__,i64_w,i32_w]
      rfl
     refine take_ (i:=22) (N:=some 49) (v:=?_) (a':=?_) #[true,true,true,true,true,true,true,true,true,true,true,true,true,true,true,true,true,true,true,true,true,true,true,false,true,false,true,false,true,false,false,false,false,false,false] rfl rfl (take_ofW HT_.out HW_.out (by kernel_rfl)) (fun _ _ _ h=>h) (Or.inl ⟨by rfl,?_⟩) hHeld ?_ ?_
     rotate_left
     ·rintro w' ⟨s0,s1,s2,s3,s4,s5,s6,s7⟩
      go_simp
      with_reducible rfl
     rotate_left
     ·simp only [Act.put,sp__,i64_w,i32_w]
      rfl
     refine take_ (i:=25) (N:=some 52) (v:=?_) (a':=?_) #[true,true,true,true,true,true,true,true,true,true,true,true,true,true,true,true,true,true,true,true,true,true,true,false,true,true,true,false,true,false,false,false,false,false,false] rfl rfl (take_ofW HT_.out HW_.out (by kernel_rfl)) (fun _ _ _ h=>h) (Or.inl ⟨by rfl,?_⟩) hHeld ?_ ?_
     rotate_left
     ·rintro w' ⟨s0,s1,s2,s3,s4,s5,s6,s7⟩
      go_simp
      with_reducible rfl
     rotate_left
     ·simp only [Act.put,sp__,i64_w,i32_w]
      rfl
     refine take_ (i:=27) (N:=some 54) (v:=?_) (a':=?_) #[true,true,true,true,true,true,true,true,true,true,true,true,true,true,true,true,true,true,true,true,true,true,true,false,true,true,true,true,true,false,false,false,false,false,false] rfl rfl (take_ofW HT_.out HW_.out (by kernel_rfl)) (fun _ _ _ h=>h) (Or.inl ⟨by rfl,?_⟩) hHeld ?_ ?_
     rotate_left
     ·rintro w' ⟨s0,s1,s2,s3,s4,s5,s6,s7⟩
      go_simp
      with_reducible rfl
     rotate_left
     ·simp only [Act.put,sp__,i64_w,i32_w]
      rfl
     refine take_ (i:=29) (N:=some 56) (v:=?_) (a':=?_) #[true,true,true,true,true,true,true,true,true,true,true,true,true,true,true,true,true,true,true,true,true,true,true,false,true,true,true,true,true,true,false,false,false,false,false] rfl rfl (take_ofW HT_.out HW_.out (by kernel_rfl)) (fun _ _ _ h=>h) (Or.inl ⟨by rfl,?_⟩) hHeld ?_ ?_
     rotate_left
     ·rintro w' ⟨s0,s1,s2,s3,s4,s5,s6,s7⟩
      go_simp
      with_reducible rfl
     rotate_left
     ·simp only [Act.put,sp__,i64_w,i32_w]
      rfl
     refine one_ (i:=23) (N:=some 50) #[true,true,true,true,true,true,true,true,true,true,true,true,true,true,true,true,true,true,true,true,true,true,true,true,true,true,true,true,true,true,false,false,false,false,false] rfl rfl (one_of HT_.out (by kernel_rfl)) (by decide) (fun K hK=>?_)
     refine goes_ Tryz.func114 (by kernel_rfl) rfl #[.agg #[.int .i64 a1_0,.int .i64 a1_1],.agg #[.int .i64 a1_2,.int .i64 a1_3],.agg #[.int .i64 a0_0,.int .i64 a0_1]] (by rfl) rfl rfl (by (try simp only [List.map_toArray,List.map_cons,List.map_nil]);first|done|rfl|(simp only [List.length_drop,List.length_take];rfl)) ?_
     with_reducible refine (plane_turn.calls a1_0 a1_1 a1_2 a1_3 a0_0 a0_1 t466 _ A51.out).mono ?_
     rintro e w56 ⟨rfl,hb⟩
     refine ⟨_,rfl,?_⟩
     have n0_:=Aside0.mk (blk_below (g:=gb458) (o:=.cells #[.int .i64 a0_0,.int .i64 a0_1,.int .i64 a0_2,.int .i64 a0_3] 178 (0,0)) (by (with_reducible repeat (first|refine blk_drewN ?_ _|refine blk_drew ?_|refine blk_alloc ?_ _));exact BK458.out) hb)
     have n1_:=Aside0.mk (blk_below (g:=gb459) (o:=.cells #[.int .i64 a1_0,.int .i64 a1_1,.int .i64 a1_2,.int .i64 a1_3] 178 (0,0)) (by (with_reducible repeat (first|refine blk_drewN ?_ _|refine blk_drew ?_|refine blk_alloc ?_ _));exact BK459.out) hb)
     have n2_:=Aside0.mk (below_step (by repeat (first|(with_reducible first|exact HB.out|apply below_alloc|apply pw_below_drewN|apply below_drew1|refine below_set ?_ GE458.out|refine below_set ?_ GE459.out)|exact HB.out)) hb)
     clear BK458
     clear BK459
     clear HB
     have BK458:=n0_
     have BK459:=n1_
     have HB:=n2_
     clear n0_ n1_ n2_
     (try clear hb)
     (try clear hb2)
     (try clear hk)
     (try clear hi)
     refine hK.out _ _ ⟨(blk_cell BK458.out 0).trans rfl,(blk_cell BK458.out 1).trans rfl,(blk_cell BK458.out 2).trans rfl,(blk_cell BK458.out 3).trans rfl,(blk_cell BK459.out 0).trans rfl,(blk_cell BK459.out 1).trans rfl,(blk_cell BK459.out 2).trans rfl,(blk_cell BK459.out 3).trans rfl⟩ (fun hHeld=>?_)
     clear hK K
     refine norm_ (a':=?_) ?_ ?_
     rotate_left
     ·show Act.put _ (some 50) _=_
      simp only [Act.put,sp__,i64_w,i32_w]
      rfl
     refine one_ (i:=30) (N:=some 57) #[true,true,true,true,true,true,true,true,true,true,true,true,true,true,true,true,true,true,true,true,true,true,true,true,true,true,true,true,true,true,true,false,false,false,false] rfl rfl (one_of HT_.out (by kernel_rfl)) (by decide) (fun K hK=>?_)
     refine goes_ Tryz.func114 (by kernel_rfl) rfl #[.agg #[.int .i64 a1_0,.int .i64 a1_1],.agg #[.int .i64 a1_2,.int .i64 a1_3],.agg #[.int .i64 a0_2,.int .i64 a0_3]] (by rfl) rfl rfl (by (try simp only [List.map_toArray,List.map_cons,List.map_nil]);first|done|rfl|(simp only [List.length_drop,List.length_take];rfl)) ?_
     with_reducible refine (plane_turn.calls a1_0 a1_1 a1_2 a1_3 a0_2 a0_3 t467 _ A52.out).mono ?_
     rintro e w57 ⟨rfl,hb⟩
     refine ⟨_,rfl,?_⟩
     have n0_:=Aside0.mk (blk_below (g:=gb458) (o:=.cells #[.int .i64 a0_0,.int .i64 a0_1,.int .i64 a0_2,.int .i64 a0_3] 178 (0,0)) (by (with_reducible repeat (first|refine blk_drewN ?_ _|refine blk_drew ?_|refine blk_alloc ?_ _));exact BK458.out) hb)
     have n1_:=Aside0.mk (blk_below (g:=gb459) (o:=.cells #[.int .i64 a1_0,.int .i64 a1_1,.int .i64 a1_2,.int .i64 a1_3] 178 (0,0)) (by (with_reducible repeat (first|refine blk_drewN ?_ _|refine blk_drew ?_|refine blk_alloc ?_ _));exact BK459.out) hb)
     have n2_:=Aside0.mk (below_step (by repeat (first|(with_reducible first|exact HB.out|apply below_alloc|apply pw_below_drewN|apply below_drew1|refine below_set ?_ GE458.out|refine below_set ?_ GE459.out)|exact HB.out)) hb)
     clear BK458
     clear BK459
     clear HB
     have BK458:=n0_
     have BK459:=n1_
     have HB:=n2_
     clear n0_ n1_ n2_
     (try clear hb)
     (try clear hb2)
     (try clear hk)
     (try clear hi)
     refine hK.out _ _ ⟨(blk_cell BK458.out 0).trans rfl,(blk_cell BK458.out 1).trans rfl,(blk_cell BK458.out 2).trans rfl,(blk_cell BK458.out 3).trans rfl,(blk_cell BK459.out 0).trans rfl,(blk_cell BK459.out 1).trans rfl,(blk_cell BK459.out 2).trans rfl,(blk_cell BK459.out 3).trans rfl⟩ (fun hHeld=>?_)
     clear hK K
     refine norm_ (a':=?_) ?_ ?_
     rotate_left
     ·show Act.put _ (some 57) _=_
      simp only [Act.put,sp__,i64_w,i32_w]
      rfl
     refine pure_ (i:=31) (N:=some 58) (v:=?_) (a':=?_) #[true,true,true,true,true,true,true,true,true,true,true,true,true,true,true,true,true,true,true,true,true,true,true,true,true,true,true,true,true,true,true,true,false,false,false] rfl rfl (any_of HT_.out (by kernel_rfl)) (fun _ _ _ h=>h) (Or.inl ⟨by rfl,?_⟩) ?_ ?_
     rotate_left
     ·intro w'
      go_simp
      with_reducible rfl
     rotate_left
     ·simp only [Act.put,sp__,i64_w,i32_w]
      rfl
     refine pure_ (i:=32) (N:=some 59) (v:=?_) (a':=?_) #[true,true,true,true,true,true,true,true,true,true,true,true,true,true,true,true,true,true,true,true,true,true,true,true,true,true,true,true,true,true,true,true,true,false,false] rfl rfl (any_of HT_.out (by kernel_rfl)) (fun _ _ _ h=>h) (Or.inl ⟨by rfl,?_⟩) ?_ ?_
     rotate_left
     ·intro w'
      go_simp
      with_reducible rfl
     rotate_left
     ·simp only [Act.put,sp__,i64_w,i32_w]
      rfl
     refine pure_ (i:=33) (N:=some 60) (v:=?_) (a':=?_) #[true,true,true,true,true,true,true,true,true,true,true,true,true,true,true,true,true,true,true,true,true,true,true,true,true,true,true,true,true,true,true,true,true,true,false] rfl rfl (any_of HT_.out (by kernel_rfl)) (fun _ _ _ h=>h) (Or.inl ⟨by rfl,?_⟩) ?_ ?_
     rotate_left
     ·intro w'
      go_simp
      with_reducible rfl
     rotate_left
     ·simp only [Act.put,sp__,i64_w,i32_w]
      rfl
     refine pure_ (i:=34) (N:=some 4) (v:=?_) (a':=?_) #[true,true,true,true,true,true,true,true,true,true,true,true,true,true,true,true,true,true,true,true,true,true,true,true,true,true,true,true,true,true,true,true,true,true,true] rfl rfl (any_of HT_.out (by kernel_rfl)) (fun _ _ _ h=>h) (Or.inl ⟨by rfl,?_⟩) ?_ ?_
     rotate_left
     ·intro w'
      go_simp
      with_reducible rfl
     rotate_left
     ·simp only [Act.put,sp__,i64_w,i32_w]
      rfl
     refine done_ (done_of HT_.out (by kernel_rfl)) ?_
     try go_wp2
     go_ret
     exact ⟨by first|rfl|(simp [errW_none,errW_some] <;> rfl)|(simp [*,errW_none,errW_some] <;> rfl),by repeat (first|(with_reducible first|exact HB.out|apply below_alloc|apply pw_below_drewN|apply below_drew1|refine below_set ?_ GE458.out|refine below_set ?_ GE459.out)|exact HB.out)⟩
    ·rw [if_neg c50] at H
     have c50b0:decide ((wrap64 (t464*t465))<0)=false:=decide_eq_false c50
     clear c50
     obtain rfl:=Option.some.inj H
     try go_wp2
     have n0_:=Aside0.mk (blk_drew BK458.out)
     have n1_:=Aside0.mk (blk_drew BK459.out)
     have n2_:=Aside0.mk (below_drew1 HB.out)
     clear BK458
     clear BK459
     clear HB
     have BK458:=n0_
     have BK459:=n1_
     have HB:=n2_
     clear n0_ n1_ n2_
     refine start_ (n:=35) (S:=fun w'=>w'.cell? ⟨gb458,0,none⟩=some (.int .i64 a0_0)∧w'.cell? ⟨gb458,1,none⟩=some (.int .i64 a0_1)∧w'.cell? ⟨gb458,2,none⟩=some (.int .i64 a0_2)∧w'.cell? ⟨gb458,3,none⟩=some (.int .i64 a0_3)∧w'.cell? ⟨gb459,0,none⟩=some (.int .i64 a1_0)∧w'.cell? ⟨gb459,1,none⟩=some (.int .i64 a1_1)∧w'.cell? ⟨gb459,2,none⟩=some (.int .i64 a1_2)∧w'.cell? ⟨gb459,3,none⟩=some (.int .i64 a1_3)) (ds:=[]) #[false,false,false,false,false,false,false,false,false,false,false,false,false,false,false,false,false,false,false,false,false,false,false,false,false,false,false,false,false,false,false,false,false,false,false] (by kernel_rfl) rfl rfl ⟨(blk_cell BK458.out 0).trans rfl,(blk_cell BK458.out 1).trans rfl,(blk_cell BK458.out 2).trans rfl,(blk_cell BK458.out 3).trans rfl,(blk_cell BK459.out 0).trans rfl,(blk_cell BK459.out 1).trans rfl,(blk_cell BK459.out 2).trans rfl,(blk_cell BK459.out 3).trans rfl⟩ (fun hHeld=>?_);refine with_tabW plane_segment_meets.tab3 plane_segment_meets.bits3 (fun HT_ HW_=>?_)
     generalize wc.drew=w58 at BK458 BK459 HB hHeld ⊢
     refine pure_ (i:=0) (N:=some 27) (v:=?_) (a':=?_) #[true,false,false,false,false,false,false,false,false,false,false,false,false,false,false,false,false,false,false,false,false,false,false,false,false,false,false,false,false,false,false,false,false,false,false] rfl rfl (any_of HT_.out (by kernel_rfl)) (fun _ _ _ h=>h) (Or.inl ⟨by rfl,?_⟩) ?_ ?_
     rotate_left
     ·intro w'
      go_simp
      with_reducible rfl
     rotate_left
     ·simp only [Act.put,sp__,i64_w,i32_w]
      rfl
     refine pure_ (i:=2) (N:=some 29) (v:=?_) (a':=?_) #[true,false,true,false,false,false,false,false,false,false,false,false,false,false,false,false,false,false,false,false,false,false,false,false,false,false,false,false,false,false,false,false,false,false,false] rfl rfl (any_of HT_.out (by kernel_rfl)) (fun _ _ _ h=>h) (Or.inl ⟨by rfl,?_⟩) ?_ ?_
     rotate_left
     ·intro w'
      go_simp
      with_reducible rfl
     rotate_left
     ·simp only [Act.put,sp__,i64_w,i32_w]
      rfl
     refine pure_ (i:=4) (N:=some 31) (v:=?_) (a':=?_) #[true,false,true,false,true,false,false,false,false,false,false,false,false,false,false,false,false,false,false,false,false,false,false,false,false,false,false,false,false,false,false,false,false,false,false] rfl rfl (any_of HT_.out (by kernel_rfl)) (fun _ _ _ h=>h) (Or.inl ⟨by rfl,?_⟩) ?_ ?_
     rotate_left
     ·intro w'
      go_simp
      with_reducible rfl
     rotate_left
     ·simp only [Act.put,sp__,i64_w,i32_w]
      rfl
     refine pure_ (i:=7) (N:=some 34) (v:=?_) (a':=?_) #[true,false,true,false,true,false,false,true,false,false,false,false,false,false,false,false,false,false,false,false,false,false,false,false,false,false,false,false,false,false,false,false,false,false,false] rfl rfl (any_of HT_.out (by kernel_rfl)) (fun _ _ _ h=>h) (Or.inl ⟨by rfl,?_⟩) ?_ ?_
     rotate_left
     ·intro w'
      go_simp
      with_reducible rfl
     rotate_left
     ·simp only [Act.put,sp__,i64_w,i32_w]
      rfl
     refine pure_ (i:=9) (N:=some 36) (v:=?_) (a':=?_) #[true,false,true,false,true,false,false,true,false,true,false,false,false,false,false,false,false,false,false,false,false,false,false,false,false,false,false,false,false,false,false,false,false,false,false] rfl rfl (any_of HT_.out (by kernel_rfl)) (fun _ _ _ h=>h) (Or.inl ⟨by rfl,?_⟩) ?_ ?_
     rotate_left
     ·intro w'
      go_simp
      with_reducible rfl
     rotate_left
     ·simp only [Act.put,sp__,i64_w,i32_w]
      rfl
     refine pure_ (i:=11) (N:=some 38) (v:=?_) (a':=?_) #[true,false,true,false,true,false,false,true,false,true,false,true,false,false,false,false,false,false,false,false,false,false,false,false,false,false,false,false,false,false,false,false,false,false,false] rfl rfl (any_of HT_.out (by kernel_rfl)) (fun _ _ _ h=>h) (Or.inl ⟨by rfl,?_⟩) ?_ ?_
     rotate_left
     ·intro w'
      go_simp
      with_reducible rfl
     rotate_left
     ·simp only [Act.put,sp__,i64_w,i32_w]
      rfl
     refine take_ (i:=1) (N:=some 28) (v:=?_) (a':=?_) #[true,true,true,false,true,false,false,true,false,true,false,true,false,false,false,false,false,false,false,false,false,false,false,false,false,false,false,false,false,false,false,false,false,false,false] rfl rfl (take_ofW HT_.out HW_.out (by kernel_rfl)) (fun _ _ _ h=>h) (Or.inl ⟨by rfl,?_⟩) hHeld ?_ ?_
     rotate_left
     ·rintro w' ⟨s0,s1,s2,s3,s4,s5,s6,s7⟩
      go_simp
      with_reducible rfl
     rotate_left
     ·simp only [Act.put,sp__,i64_w,i32_w]
      rfl
     refine take_ (i:=3) (N:=some 30) (v:=?_) (a':=?_) #[true,true,true,true,true,false,false,true,false,true,false,true,false,false,false,false,false,false,false,false,false,false,false,false,false,false,false,false,false,false,false,false,false,false,false] rfl rfl (take_ofW HT_.out HW_.out (by kernel_rfl)) (fun _ _ _ h=>h) (Or.inl ⟨by rfl,?_⟩) hHeld ?_ ?_
     rotate_left
     ·rintro w' ⟨s0,s1,s2,s3,s4,s5,s6,s7⟩
      go_simp
      with_reducible rfl
     rotate_left
     ·simp only [Act.put,sp__,i64_w,i32_w]
      rfl
     refine take_ (i:=5) (N:=some 32) (v:=?_) (a':=?_) #[true,true,true,true,true,true,false,true,false,true,false,true,false,false,false,false,false,false,false,false,false,false,false,false,false,false,false,false,false,false,false,false,false,false,false] rfl rfl (take_ofW HT_.out HW_.out (by kernel_rfl)) (fun _ _ _ h=>h) (Or.inl ⟨by rfl,?_⟩) hHeld ?_ ?_
     rotate_left
     ·rintro w' ⟨s0,s1,s2,s3,s4,s5,s6,s7⟩
      go_simp
      with_reducible rfl
     rotate_left
     ·simp only [Act.put,sp__,i64_w,i32_w]
      rfl
     refine take_ (i:=8) (N:=some 35) (v:=?_) (a':=?_) #[true,true,true,true,true,true,false,true,true,true,false,true,false,false,false,false,false,false,false,false,false,false,false,false,false,false,false,false,false,false,false,false,false,false,false] rfl rfl (take_ofW HT_.out HW_.out (by kernel_rfl)) (fun _ _ _ h=>h) (Or.inl ⟨by rfl,?_⟩) hHeld ?_ ?_
     rotate_left
     ·rintro w' ⟨s0,s1,s2,s3,s4,s5,s6,s7⟩
      go_simp
      with_reducible rfl
     rotate_left
     ·simp only [Act.put,sp__,i64_w,i32_w]
      rfl
     refine take_ (i:=10) (N:=some 37) (v:=?_) (a':=?_) #[true,true,true,true,true,true,false,true,true,true,true,true,false,false,false,false,false,false,false,false,false,false,false,false,false,false,false,false,false,false,false,false,false,false,false] rfl rfl (take_ofW HT_.out HW_.out (by kernel_rfl)) (fun _ _ _ h=>h) (Or.inl ⟨by rfl,?_⟩) hHeld ?_ ?_
     rotate_left
     ·rintro w' ⟨s0,s1,s2,s3,s4,s5,s6,s7⟩
      go_simp
      with_reducible rfl
     rotate_left
     ·simp only [Act.put,sp__,i64_w,i32_w]
      rfl
     refine take_ (i:=12) (N:=some 39) (v:=?_) (a':=?_) #[true,true,true,true,true,true,false,true,true,true,true,true,true,false,false,false,false,false,false,false,false,false,false,false,false,false,false,false,false,false,false,false,false,false,false] rfl rfl (take_ofW HT_.out HW_.out (by kernel_rfl)) (fun _ _ _ h=>h) (Or.inl ⟨by rfl,?_⟩) hHeld ?_ ?_
     rotate_left
     ·rintro w' ⟨s0,s1,s2,s3,s4,s5,s6,s7⟩
      go_simp
      with_reducible rfl
     rotate_left
     ·simp only [Act.put,sp__,i64_w,i32_w]
      rfl
     refine one_ (i:=6) (N:=some 33) #[true,true,true,true,true,true,true,true,true,true,true,true,true,false,false,false,false,false,false,false,false,false,false,false,false,false,false,false,false,false,false,false,false,false,false] rfl rfl (one_of HT_.out (by kernel_rfl)) (by decide) (fun K hK=>?_)
     refine goes_ Tryz.func114 (by kernel_rfl) rfl #[.agg #[.int .i64 a0_0,.int .i64 a0_1],.agg #[.int .i64 a0_2,.int .i64 a0_3],.agg #[.int .i64 a1_0,.int .i64 a1_1]] (by rfl) rfl rfl (by (try simp only [List.map_toArray,List.map_cons,List.map_nil]);first|done|rfl|(simp only [List.length_drop,List.length_take];rfl)) ?_
     with_reducible refine (plane_turn.calls a0_0 a0_1 a0_2 a0_3 a1_0 a1_1 t464 _ A48.out).mono ?_
     rintro e w59 ⟨rfl,hb⟩
     refine ⟨_,rfl,?_⟩
     have n0_:=Aside0.mk (blk_below (g:=gb458) (o:=.cells #[.int .i64 a0_0,.int .i64 a0_1,.int .i64 a0_2,.int .i64 a0_3] 178 (0,0)) (by (with_reducible repeat (first|refine blk_drewN ?_ _|refine blk_drew ?_|refine blk_alloc ?_ _));exact BK458.out) hb)
     have n1_:=Aside0.mk (blk_below (g:=gb459) (o:=.cells #[.int .i64 a1_0,.int .i64 a1_1,.int .i64 a1_2,.int .i64 a1_3] 178 (0,0)) (by (with_reducible repeat (first|refine blk_drewN ?_ _|refine blk_drew ?_|refine blk_alloc ?_ _));exact BK459.out) hb)
     have n2_:=Aside0.mk (below_step (by repeat (first|(with_reducible first|exact HB.out|apply below_alloc|apply pw_below_drewN|apply below_drew1|refine below_set ?_ GE458.out|refine below_set ?_ GE459.out)|exact HB.out)) hb)
     clear BK458
     clear BK459
     clear HB
     have BK458:=n0_
     have BK459:=n1_
     have HB:=n2_
     clear n0_ n1_ n2_
     (try clear hb)
     (try clear hb2)
     (try clear hk)
     (try clear hi)
     refine hK.out _ _ ⟨(blk_cell BK458.out 0).trans rfl,(blk_cell BK458.out 1).trans rfl,(blk_cell BK458.out 2).trans rfl,(blk_cell BK458.out 3).trans rfl,(blk_cell BK459.out 0).trans rfl,(blk_cell BK459.out 1).trans rfl,(blk_cell BK459.out 2).trans rfl,(blk_cell BK459.out 3).trans rfl⟩ (fun hHeld=>?_)
     clear hK K
     refine norm_ (a':=?_) ?_ ?_
     rotate_left
     ·show Act.put _ (some 33) _=_
      simp only [Act.put,sp__,i64_w,i32_w]
      rfl
     refine one_ (i:=13) (N:=some 40) #[true,true,true,true,true,true,true,true,true,true,true,true,true,true,false,false,false,false,false,false,false,false,false,false,false,false,false,false,false,false,false,false,false,false,false] rfl rfl (one_of HT_.out (by kernel_rfl)) (by decide) (fun K hK=>?_)
     refine goes_ Tryz.func114 (by kernel_rfl) rfl #[.agg #[.int .i64 a0_0,.int .i64 a0_1],.agg #[.int .i64 a0_2,.int .i64 a0_3],.agg #[.int .i64 a1_2,.int .i64 a1_3]] (by rfl) rfl rfl (by (try simp only [List.map_toArray,List.map_cons,List.map_nil]);first|done|rfl|(simp only [List.length_drop,List.length_take];rfl)) ?_
     with_reducible refine (plane_turn.calls a0_0 a0_1 a0_2 a0_3 a1_2 a1_3 t465 _ A49.out).mono ?_
     rintro e w60 ⟨rfl,hb⟩
     refine ⟨_,rfl,?_⟩
     have n0_:=Aside0.mk (blk_below (g:=gb458) (o:=.cells #[.int .i64 a0_0,.int .i64 a0_1,.int .i64 a0_2,.int .i64 a0_3] 178 (0,0)) (by (with_reducible repeat (first|refine blk_drewN ?_ _|refine blk_drew ?_|refine blk_alloc ?_ _));exact BK458.out) hb)
     have n1_:=Aside0.mk (blk_below (g:=gb459) (o:=.cells #[.int .i64 a1_0,.int .i64 a1_1,.int .i64 a1_2,.int .i64 a1_3] 178 (0,0)) (by (with_reducible repeat (first|refine blk_drewN ?_ _|refine blk_drew ?_|refine blk_alloc ?_ _));exact BK459.out) hb)
     have n2_:=Aside0.mk (below_step (by repeat (first|(with_reducible first|exact HB.out|apply below_alloc|apply pw_below_drewN|apply below_drew1|refine below_set ?_ GE458.out|refine below_set ?_ GE459.out)|exact HB.out)) hb)
     clear BK458
     clear BK459
     clear HB
     have BK458:=n0_
     have BK459:=n1_
     have HB:=n2_
     clear n0_ n1_ n2_
     (try clear hb)
     (try clear hb2)
     (try clear hk)
     (try clear hi)
     refine hK.out _ _ ⟨(blk_cell BK458.out 0).trans rfl,(blk_cell BK458.out 1).trans rfl,(blk_cell BK458.out 2).trans rfl,(blk_cell BK458.out 3).trans rfl,(blk_cell BK459.out 0).trans rfl,(blk_cell BK459.out 1).trans rfl,(blk_cell BK459.out 2).trans rfl,(blk_cell BK459.out 3).trans rfl⟩ (fun hHeld=>?_)
     clear hK K
     refine norm_ (a':=?_) ?_ ?_
     rotate_left
     ·show Act.put _ (some 40) _=_
      simp only [Act.put,sp__,i64_w,i32_w]
      rfl
     refine pure_ (i:=14) (N:=some 41) (v:=?_) (a':=?_) #[true,true,true,true,true,true,true,true,true,true,true,true,true,true,true,false,false,false,false,false,false,false,false,false,false,false,false,false,false,false,false,false,false,false,false] rfl rfl (any_of HT_.out (by kernel_rfl)) (fun _ _ _ h=>h) (Or.inl ⟨by rfl,?_⟩) ?_ ?_
     rotate_left
     ·intro w'
      go_simp
      with_reducible rfl
     rotate_left
     ·simp only [Act.put,sp__,i64_w,i32_w]
      rfl
     refine pure_ (i:=15) (N:=some 42) (v:=?_) (a':=?_) #[true,true,true,true,true,true,true,true,true,true,true,true,true,true,true,true,false,false,false,false,false,false,false,false,false,false,false,false,false,false,false,false,false,false,false] rfl rfl (any_of HT_.out (by kernel_rfl)) (fun _ _ _ h=>h) (Or.inl ⟨by rfl,?_⟩) ?_ ?_
     rotate_left
     ·intro w'
      go_simp
      with_reducible rfl
     rotate_left
     ·simp only [Act.put,sp__,i64_w,i32_w]
      rfl
     refine pure_ (i:=16) (N:=some 43) (v:=?_) (a':=?_) #[true,true,true,true,true,true,true,true,true,true,true,true,true,true,true,true,true,false,false,false,false,false,false,false,false,false,false,false,false,false,false,false,false,false,false] rfl rfl (any_of HT_.out (by kernel_rfl)) (fun _ _ _ h=>h) (Or.inl ⟨by rfl,?_⟩) ?_ ?_
     rotate_left
     ·intro w'
      go_simp
      with_reducible rfl
     rotate_left
     ·simp only [Act.put,sp__,i64_w,i32_w]
      rfl
     refine pure_ (i:=17) (N:=some 44) (v:=undef) (a':=?_) #[true,true,true,true,true,true,true,true,true,true,true,true,true,true,true,true,true,true,false,false,false,false,false,false,false,false,false,false,false,false,false,false,false,false,false] rfl rfl (any_of HT_.out (by kernel_rfl)) (fun _ _ _ h=>h) (Or.inr ⟨by rfl,rfl⟩) ?_ ?_
     rotate_left
     ·simp only [Act.put,sp__,i64_w,i32_w]
      rfl
     refine pure_ (i:=18) (N:=some 45) (v:=undef) (a':=?_) #[true,true,true,true,true,true,true,true,true,true,true,true,true,true,true,true,true,true,true,false,false,false,false,false,false,false,false,false,false,false,false,false,false,false,false] rfl rfl (any_of HT_.out (by kernel_rfl)) (fun _ _ _ h=>h) (Or.inr ⟨by rfl,rfl⟩) ?_ ?_
     rotate_left
     ·simp only [Act.put,sp__,i64_w,i32_w]
      rfl
     refine pure_ (i:=19) (N:=some 46) (v:=undef) (a':=?_) #[true,true,true,true,true,true,true,true,true,true,true,true,true,true,true,true,true,true,true,true,false,false,false,false,false,false,false,false,false,false,false,false,false,false,false] rfl rfl (any_of HT_.out (by kernel_rfl)) (fun _ _ _ h=>h) (Or.inr ⟨by rfl,rfl⟩) ?_ ?_
     rotate_left
     ·simp only [Act.put,sp__,i64_w,i32_w]
      rfl
     refine pure_ (i:=20) (N:=some 47) (v:=undef) (a':=?_) #[true,true,true,true,true,true,true,true,true,true,true,true,true,true,true,true,true,true,true,true,true,false,false,false,false,false,false,false,false,false,false,false,false,false,false] rfl rfl (any_of HT_.out (by kernel_rfl)) (fun _ _ _ h=>h) (Or.inr ⟨by rfl,rfl⟩) ?_ ?_
     rotate_left
     ·simp only [Act.put,sp__,i64_w,i32_w]
      rfl
     refine pure_ (i:=21) (N:=some 48) (v:=undef) (a':=?_) #[true,true,true,true,true,true,true,true,true,true,true,true,true,true,true,true,true,true,true,true,true,true,false,false,false,false,false,false,false,false,false,false,false,false,false] rfl rfl (any_of HT_.out (by kernel_rfl)) (fun _ _ _ h=>h) (Or.inr ⟨by rfl,rfl⟩) ?_ ?_
     rotate_left
     ·simp only [Act.put,sp__,i64_w,i32_w]
      rfl
     refine pure_ (i:=22) (N:=some 49) (v:=undef) (a':=?_) #[true,true,true,true,true,true,true,true,true,true,true,true,true,true,true,true,true,true,true,true,true,true,true,false,false,false,false,false,false,false,false,false,false,false,false] rfl rfl (any_of HT_.out (by kernel_rfl)) (fun _ _ _ h=>h) (Or.inr ⟨by rfl,rfl⟩) ?_ ?_
     rotate_left
     ·simp only [Act.put,sp__,i64_w,i32_w]
      rfl
     refine pure_ (i:=23) (N:=some 50) (v:=undef) (a':=?_) #[true,true,true,true,true,true,true,true,true,true,true,true,true,true,true,true,true,true,true,true,true,true,true,true,false,false,false,false,false,false,false,false,false,false,false] rfl rfl (any_of HT_.out (by kernel_rfl)) (fun _ _ _ h=>h) (Or.inr ⟨by rfl,rfl⟩) ?_ ?_
     rotate_left
     ·simp only [Act.put,sp__,i64_w,i32_w]
      rfl
     refine pure_ (i:=24) (N:=some 51) (v:=undef) (a':=?_) #[true,true,true,true,true,true,true,true,true,true,true,true,true,true,true,true,true,true,true,true,true,true,true,true,true,false,false,false,false,false,false,false,false,false,false] rfl rfl (any_of HT_.out (by kernel_rfl)) (fun _ _ _ h=>h) (Or.inr ⟨by rfl,rfl⟩) ?_ ?_
     rotate_left
     ·simp only [Act.put,sp__,i64_w,i32_w]
      rfl
     refine pure_ (i:=25) (N:=some 52) (v:=undef) (a':=?_) #[true,true,true,true,true,true,true,true,true,true,true,true,true,true,true,true,true,true,true,true,true,true,true,true,true,true,false,false,false,false,false,false,false,false,false] rfl rfl (any_of HT_.out (by kernel_rfl)) (fun _ _ _ h=>h) (Or.inr ⟨by rfl,rfl⟩) ?_ ?_
     rotate_left
     ·simp only [Act.put,sp__,i64_w,i32_w]
      rfl
     refine pure_ (i:=26) (N:=some 53) (v:=undef) (a':=?_) #[true,true,true,true,true,true,true,true,true,true,true,true,true,true,true,true,true,true,true,true,true,true,true,true,true,true,true,false,false,false,false,false,false,false,false] rfl rfl (any_of HT_.out (by kernel_rfl)) (fun _ _ _ h=>h) (Or.inr ⟨by rfl,rfl⟩) ?_ ?_
     rotate_left
     ·simp only [Act.put,sp__,i64_w,i32_w]
      rfl
     refine pure_ (i:=27) (N:=some 54) (v:=undef) (a':=?_) #[true,true,true,true,true,true,true,true,true,true,true,true,true,true,true,true,true,true,true,true,true,true,true,true,true,true,true,true,false,false,false,false,false,false,false] rfl rfl (any_of HT_.out (by kernel_rfl)) (fun _ _ _ h=>h) (Or.inr ⟨by rfl,rfl⟩) ?_ ?_
     rotate_left
     ·simp only [Act.put,sp__,i64_w,i32_w]
      rfl
     refine pure_ (i:=28) (N:=some 55) (v:=undef) (a':=?_) #[true,true,true,true,true,true,true,true,true,true,true,true,true,true,true,true,true,true,true,true,true,true,true,true,true,true,true,true,true,false,false,false,false,false,false] rfl rfl (any_of HT_.out (by kernel_rfl)) (fun _ _ _ h=>h) (Or.inr ⟨by rfl,rfl⟩) ?_ ?_
     rotate_left
     ·simp only [Act.put,sp__,i64_w,i32_w]
      rfl
     refine pure_ (i:=29) (N:=some 56) (v:=undef) (a':=?_) #[true,true,true,true,true,true,true,true,true,true,true,true,true,true,true,true,true,true,true,true,true,true,true,true,true,true,true,true,true,true,false,false,false,false,false] rfl rfl (any_of HT_.out (by kernel_rfl)) (fun _ _ _ h=>h) (Or.inr ⟨by rfl,rfl⟩) ?_ ?_
     rotate_left
     ·simp only [Act.put,sp__,i64_w,i32_w]
      rfl
     refine pure_ (i:=30) (N:=some 57) (v:=undef) (a':=?_) #[true,true,true,true,true,true,true,true,true,true,true,true,true,true,true,true,true,true,true,true,true,true,true,true,true,true,true,true,true,true,true,false,false,false,false] rfl rfl (any_of HT_.out (by kernel_rfl)) (fun _ _ _ h=>h) (Or.inr ⟨by rfl,rfl⟩) ?_ ?_
     rotate_left
     ·simp only [Act.put,sp__,i64_w,i32_w]
      rfl
     refine pure_ (i:=31) (N:=some 58) (v:=undef) (a':=?_) #[true,true,true,true,true,true,true,true,true,true,true,true,true,true,true,true,true,true,true,true,true,true,true,true,true,true,true,true,true,true,true,true,false,false,false] rfl rfl (any_of HT_.out (by kernel_rfl)) (fun _ _ _ h=>h) (Or.inr ⟨by rfl,rfl⟩) ?_ ?_
     rotate_left
     ·simp only [Act.put,sp__,i64_w,i32_w]
      rfl
     refine pure_ (i:=32) (N:=some 59) (v:=undef) (a':=?_) #[true,true,true,true,true,true,true,true,true,true,true,true,true,true,true,true,true,true,true,true,true,true,true,true,true,true,true,true,true,true,true,true,true,false,false] rfl rfl (any_of HT_.out (by kernel_rfl)) (fun _ _ _ h=>h) (Or.inr ⟨by rfl,rfl⟩) ?_ ?_
     rotate_left
     ·simp only [Act.put,sp__,i64_w,i32_w]
      rfl
     refine pure_ (i:=33) (N:=some 60) (v:=?_) (a':=?_) #[true,true,true,true,true,true,true,true,true,true,true,true,true,true,true,true,true,true,true,true,true,true,true,true,true,true,true,true,true,true,true,true,true,true,false] rfl rfl (any_of HT_.out (by kernel_rfl)) (fun _ _ _ h=>h) (Or.inl ⟨by rfl,?_⟩) ?_ ?_
     rotate_left
     ·intro w'
      go_simp
      with_reducible rfl
     rotate_left
     ·simp only [Act.put,sp__,i64_w,i32_w]
      rfl
     refine pure_ (i:=34) (N:=some 4) (v:=?_) (a':=?_) #[true,true,true,true,true,true,true,true,true,true,true,true,true,true,true,true,true,true,true,true,true,true,true,true,true,true,true,true,true,true,true,true,true,true,true] rfl rfl (any_of HT_.out (by kernel_rfl)) (fun _ _ _ h=>h) (Or.inl ⟨by rfl,?_⟩) ?_ ?_
     rotate_left
     ·intro w'
      go_simp
      with_reducible rfl
     rotate_left
     ·simp only [Act.put,sp__,i64_w,i32_w]
      rfl
     refine done_ (done_of HT_.out (by kernel_rfl)) ?_
     try go_wp2
     go_ret
     exact ⟨by first|rfl|(simp [errW_none,errW_some] <;> rfl)|(simp [*,errW_none,errW_some] <;> rfl),by repeat (first|(with_reducible first|exact HB.out|apply below_alloc|apply pw_below_drewN|apply below_drew1|refine below_set ?_ GE458.out|refine below_set ?_ GE459.out)|exact HB.out)⟩
end Go.Proofs.YtiioklboaookiaaGreatDoor.Q
namespace Go.Proofs.YtiioklboaookiaaGreatDoor.Q
open Go.RowKit Go.Proofs.YtiioklboaookiaaGreatDoorW.PrintWords Go.Proofs.YtiioklboaookiaaGreatDoorW.PrintLast Go.Proofs.YtiioklboaookiaaGreatDoor.Hand Go.Proofs.YtiioklboaookiaaGreatDoorW.PrintMore
attribute [local go_sem] max2_int min2_int max_two min_two max_three min_three max_four min_four
set_option linter.unusedVariables false
set_option linter.unusedSimpArgs false
def plane_value.f (a0:Int) (a1:Int) (a2_0:Int) (a2_1:Int):Option (Int):=some (wrap64 ((wrap64 (a0*a2_0))+(wrap64 (a1*a2_1))))
set_option maxHeartbeats 8000000 in
set_option maxRecDepth 100000 in
theorem plane_value.calls (a0:Int) (a1:Int) (a2_0:Int) (a2_1:Int) (r:Int) (w:World) (h:plane_value.f a0 a1 a2_0 a2_1=some r) :
  Calls Tryz.prog 143 #[.int .i64 a0,.int .i64 a1,.agg #[.int .i64 a2_0,.int .i64 a2_1]] w fun e w'=>e=.returned (.int .i64 r)∧Below w.heap.size w w':=by
 have hu159:=Tryz.underlying159
 have HB:=Aside0.mk (Below.refl w.heap.size w)
 have H:(some (wrap64 ((wrap64 (a0*a2_0))+(wrap64 (a1*a2_1)))))=some r:=h
 clear h
 obtain rfl:=Option.some.inj H
 go_enter Tryz.func143,Tryz.ntmps143
 go_wp2_with (first|((with_reducible refine gate_dst (N:=5) rfl ?_);refine box_event ?hg (N:=5) ?hd (cs:=#[.int .i64 a2_0,.int .i64 a2_1]) (t:=159) ?hr ?_;(case hd=>rfl);(case hg=>rfl);(case hr=>first|(go_simp;done)|(go_simp;rfl));intro gb500 hg w4 hbox hb;have n0_:=Aside0.mk (below_step (by repeat (first|(with_reducible first|exact HB.out|apply below_alloc|apply pw_below_drewN|apply below_drew1)|exact HB.out)) hb);have n1_:=Aside0.mk (hbox);have n2_:=Aside0.mk ((by rw [hg];exact (below_size (by repeat (first|(with_reducible first|exact HB.out|apply below_alloc|apply pw_below_drewN|apply below_drew1)|exact HB.out))):w.heap.size≤gb500));have n3_:=Aside0.mk ((by rw [hg];exact (below_size (by repeat (first|(with_reducible first|exact HB.out|apply below_alloc|apply pw_below_drewN|apply below_drew1)|exact HB.out))):w.heap.size≤gb500));clear HB;have HB:=n0_;have BK500:=n1_;have GW500:=n2_;have GE500:=n3_;clear n0_ n1_ n2_ n3_;clear hb hbox hg;have hcz5_0:w4.cell? ⟨gb500,0,none⟩=some (.int .i64 a2_0):=(blk_cell BK500.out 0).trans rfl;have hcz5_1:w4.cell? ⟨gb500,1,none⟩=some (.int .i64 a2_1):=(blk_cell BK500.out 1).trans rfl;have hfz5_0:=blk_frozen BK500.out 0;have hfz5_1:=blk_frozen BK500.out 1))
 go_ret
 exact ⟨by first|rfl|(simp [errW_none,errW_some] <;> rfl)|(simp [*,errW_none,errW_some] <;> rfl),by repeat (first|(with_reducible first|exact HB.out|apply below_alloc|apply pw_below_drewN|apply below_drew1|refine below_set ?_ GE500.out)|exact HB.out)⟩
def plane_extremes.l0:Nat→Int→Int→Int→Int→List (S159)→Int→Int→Option (Int × Int)
 | 0,_,_,_,_,_,_,_=>none
 | k+1,x0,x1,x8,x9,x19,x20,x21=>if x21<x20 then (if 0≤x21 then (if x21<(x19.length:Int) then ((plane_value.f x0 x1 ((rd_T159 x19 x21).f0) ((rd_T159 x19 x21).f1)).bind fun t505=>((plane_value.f x0 x1 ((rd_T159 x19 x21).f0) ((rd_T159 x19 x21).f1)).bind fun t506=>(plane_extremes.l0 k x0 x1 (mn x8 t505) (mx x9 t506) x19 x20 (wrap64 (x21+1))))) else (none)) else (none)) else (some (x8,x9))
def plane_extremes.f (k:Nat) (a0:Int) (a1:Int) (l2:List (S159)):Option (Int × Int):=if 0<(l2.length:Int) then ((plane_value.f a0 a1 ((rd_T159 l2 0).f0) ((rd_T159 l2 0).f1)).bind fun t502=>(plane_extremes.l0 k a0 a1 t502 t502 l2 (l2.length:Int) 0)) else (none)
theorem plane_extremes.mono_l:∀ k,(∀ y0 y1 y2 y3 y4 y5 y6,LeO (plane_extremes.l0 k y0 y1 y2 y3 y4 y5 y6) (plane_extremes.l0 (k+1) y0 y1 y2 y3 y4 y5 y6))
 | 0=>fun _ _ _ _ _ _ _ r h=>by simp [plane_extremes.l0] at h
 | k+1=>by
  have ih0:=plane_extremes.mono_l k
  ·intro y0 y1 y2 y3 y4 y5 y6
   unfold plane_extremes.l0
   repeat' first
   | (with_reducible exact ih0 _ _ _ _ _ _ _)
   | (with_reducible exact LeO.refl _)
   | (with_reducible exact LeO.none _)
   | (with_reducible refine LeO.ite ?_ ?_)
   | (with_reducible refine LeO.bind ?_ (fun _=>?_))
   | exact ih0 _ _ _ _ _ _ _
   | exact LeO.none _
   | refine LeO.ite ?_ ?_
   | refine LeO.bind ?_ (fun _=>?_)
theorem plane_extremes.mono:∀ a0 a1 a2 k,LeO (plane_extremes.f k a0 a1 a2) (plane_extremes.f (k+1) a0 a1 a2):=by
 intro a0 a1 a2 k
 have ih0:=plane_extremes.mono_l k
 unfold plane_extremes.f
 repeat' first
   | (with_reducible exact ih0 _ _ _ _ _ _ _)
   | (with_reducible exact LeO.refl _)
   | (with_reducible exact LeO.none _)
   | (with_reducible refine LeO.ite ?_ ?_)
   | (with_reducible refine LeO.bind ?_ (fun _=>?_))
   | exact ih0 _ _ _ _ _ _ _
   | exact LeO.none _
   | refine LeO.ite ?_ ?_
   | refine LeO.bind ?_ (fun _=>?_)
def plane_extremes.T6:Bool × List (List Nat × List Nat):=(true,[([],[]),([],[]),([],[]),([],[]),([1,2,3],[1,2,3]),([0,4],[0,4]),([],[]),([],[]),([],[]),([],[]),([7,8,9,4],[7,8,9]),([6,10],[6,10]),([5,10,0,1,2,3,4,5],[0,5]),([11,12,0,1,2,3,4,5,6,7,8,9,10,11,12],[6,11])])
def plane_extremes.B6:List Nat:=[0,0,0,0,14,31,0,0,0,0,926,2014,1983,8191]
theorem plane_extremes.tab6:rtab .any (opsOf Tryz.f121 6)=plane_extremes.T6:=by kernel_rfl
theorem plane_extremes.bits6:waitsOk plane_extremes.T6.2 plane_extremes.B6=true:=by kernel_rfl
set_option maxHeartbeats 8000000 in
set_option maxRecDepth 100000 in
theorem plane_extremes.calls (k:Nat) (a0:Int) (a1:Int) (A2:Option Addr) (c2:Nat) (l2:List (S159)) (r1:Int) (r2:Int) (w:World) (hr2:Kd.C k159 w A2 l2.length l2) (hc2:l2.length≤c2) (h:plane_extremes.f k a0 a1 l2=some (r1,r2)) :
  Calls Tryz.prog 121 #[.int .i64 a0,.int .i64 a1,.slice A2 l2.length c2] w fun e w'=>e=.returned (.tuple #[.int .i64 r1,.int .i64 r2])∧Below w.heap.size w w':=by
 have hu159:=Tryz.underlying159
 have HR2:=Aside0.mk hr2
 have HC2:=Aside0.mk hc2
 clear hr2 hc2
 have HB:=Aside0.mk (Below.refl w.heap.size w)
 have H:(if 0<(l2.length:Int) then ((plane_value.f a0 a1 ((rd_T159 l2 0).f0) ((rd_T159 l2 0).f1)).bind fun t502=>(plane_extremes.l0 k a0 a1 t502 t502 l2 (l2.length:Int) 0)) else (none))=some (r1,r2):=h
 clear h
 by_cases c4:0<(l2.length:Int)
 ·rw [if_pos c4] at H
  have c4b0:decide (0<(l2.length:Int))=true:=decide_eq_true c4
  have c4b1:decide (0<l2.length)=true:=decide_eq_true (by omega)
  clear c4
  replace H:=Option.bind_eq_some_iff.mp H
  obtain ⟨t502,A50,H⟩:=H
  replace H:(plane_extremes.l0 k a0 a1 t502 t502 l2 (l2.length:Int) 0)=some (r1,r2):=H
  have A5:=Aside0.mk A50;(try simp only [Int.toNat_natCast] at A5)
  clear A50
  have H':=Aside0.mk H
  clear H
  have p501:0≤(0:Int):=(by omega)
  have q501:0<(l2.length:Int):=of_decide_eq_true (by first|(with_reducible assumption)|assumption)
  obtain ⟨ad501,e501,hx501_0,hx501_1⟩:=at_T159 HR2.out 0 p501 q501
  cases e501
  have qi501:(0<l2.length)=True:=eq_true (by omega)
  (try rw [show ((0:Int)).toNat=0 from rfl] at hx501_0)
  (try rw [show 0*2=0 from rfl] at hx501_0)
  (try rw [Addr.add_zero'] at hx501_0)
  (try rw [show ((0:Int)).toNat=0 from rfl] at hx501_1)
  (try rw [show 0*2=0 from rfl] at hx501_1)
  (try rw [Addr.add_zero'] at hx501_1)
  replace p501:=eq_true p501
  replace q501:=eq_true q501
  go_enter Tryz.func121,Tryz.ntmps121
  go_wp2_with (first|((with_reducible refine gate_callee (f:=143) rfl ?_);refine goesL_ (some 17) rfl rfl Tryz.func143 (by kernel_rfl) rfl #[.int .i64 a0,.int .i64 a1,.agg #[.int .i64 ((rd_T159 l2 0).f0),.int .i64 ((rd_T159 l2 0).f1)]] rfl (by (try simp only [List.map_toArray,List.map_cons,List.map_nil]);first|done|rfl|(simp only [List.length_drop,List.length_take];rfl)) ?_;(with_reducible refine (plane_value.calls a0 a1 ((rd_T159 l2 0).f0) ((rd_T159 l2 0).f1) t502 _ A5.out).mono ?_);rintro e w6 ⟨rfl,hb⟩;refine ⟨_,rfl,?_⟩;have n0_:=Aside0.mk (below_step (by repeat (first|(with_reducible first|exact HB.out|apply below_alloc|apply pw_below_drewN|apply below_drew1)|exact HB.out)) hb);clear HB;have HB:=n0_;clear n0_;(try clear hb);(try clear hb2);(try clear hk);(try clear hi)))
  go_loopg [8,9,21] k (fun kq v8 v9 v21 w'=>∃ (x8_1:Int) (x9_1:Int) (x21_1:Int),v8=.int .i64 x8_1∧v9=.int .i64 x9_1∧v21=.int .i64 x21_1∧Aside0 (plane_extremes.l0 kq a0 a1 x8_1 x9_1 l2 (l2.length:Int) x21_1=some (r1,r2))∧Aside0 (kq≤k)∧Aside0 (Below w.heap.size w w'))
  case atStart=>exact ⟨(t502),(t502),(0),(by first|rfl|(simp;done)|(simp [*];done)),(by first|rfl|(simp;done)|(simp [*];done)),(by first|rfl|(simp;done)|(simp [*];done)),H',⟨Nat.le_refl _⟩,⟨by repeat (first|(with_reducible first|exact HB.out|apply below_alloc|apply pw_below_drewN|apply below_drew1)|exact HB.out)⟩⟩
  case round =>
   clear H'
   try clear c1
   try clear c2
   try clear p2
   try clear c4
   try clear c4b0
   try clear c4b1
   try clear p5
   try clear q5
   try clear hx5
   try clear qi5
   try clear hx501_0
   try clear hx501_1
   try clear p501
   try clear q501
   obtain ⟨x8_1,x9_1,x21_1,rfl,rfl,rfl,HA,HK1,HB⟩:=hrel
   cases gk with
   | zero=>exact absurd HA.out (by simp [plane_extremes.l0])
   | succ k1 =>
    have H:=HA.out
    clear HA
    simp only [plane_extremes.l0] at H
    by_cases c7:x21_1<(l2.length:Int)
    ·rw [if_pos c7] at H
     have c7b0:decide (x21_1<(l2.length:Int))=true:=decide_eq_true c7
     clear c7
     by_cases c8:0≤x21_1
     ·rw [if_pos c8] at H
      have c8b0:decide (0≤x21_1)=true:=decide_eq_true c8
      clear c8
      by_cases c9:x21_1<(l2.length:Int)
      ·rw [if_pos c9] at H
       have c9b0:decide (x21_1<(l2.length:Int))=true:=decide_eq_true c9
       clear c9
       replace H:=Option.bind_eq_some_iff.mp H
       obtain ⟨t505,A100,H⟩:=H
       replace H:((plane_value.f a0 a1 ((rd_T159 l2 x21_1).f0) ((rd_T159 l2 x21_1).f1)).bind fun t506=>(plane_extremes.l0 k1 a0 a1 (mn x8_1 t505) (mx x9_1 t506) l2 (l2.length:Int) (wrap64 (x21_1+1))))=some (r1,r2):=H
       have A10:=Aside0.mk A100;(try simp only [Int.toNat_natCast] at A10)
       clear A100
       obtain ⟨ji11,hji11⟩:∃ j_:Int,(mn x8_1 t505)=j_:=⟨_,rfl⟩
       replace H:((plane_value.f a0 a1 ((rd_T159 l2 x21_1).f0) ((rd_T159 l2 x21_1).f1)).bind fun t506=>(plane_extremes.l0 k1 a0 a1 ji11 (mx x9_1 t506) l2 (l2.length:Int) (wrap64 (x21_1+1))))=some (r1,r2):=by first|(rw [hji11] at H;exact H)|(simp only [hji11] at H ⊢;exact H)
       (try rw [hji11] at A10)
       have hji11_:(if t505<x8_1 then t505 else x8_1)=ji11:=hji11
       replace H:=Option.bind_eq_some_iff.mp H
       obtain ⟨t506,A120,H⟩:=H
       replace H:(plane_extremes.l0 k1 a0 a1 ji11 (mx x9_1 t506) l2 (l2.length:Int) (wrap64 (x21_1+1)))=some (r1,r2):=H
       have A12:=Aside0.mk A120;(try simp only [Int.toNat_natCast] at A12)
       clear A120
       obtain ⟨ji13,hji13⟩:∃ j_:Int,(mx x9_1 t506)=j_:=⟨_,rfl⟩
       replace H:(plane_extremes.l0 k1 a0 a1 ji11 ji13 l2 (l2.length:Int) (wrap64 (x21_1+1)))=some (r1,r2):=by first|(rw [hji13] at H;exact H)|(simp only [hji13] at H ⊢;exact H)
       (try rw [hji13] at A10)
       (try rw [hji13] at A12)
       have hji13_:(if x9_1<t506 then t506 else x9_1)=ji13:=hji13
       have H':=Aside0.mk H
       clear H
       have p503:0≤(x21_1:Int):=of_decide_eq_true (by first|(with_reducible assumption)|assumption)
       have q503:x21_1<(l2.length:Int):=of_decide_eq_true (by first|(with_reducible assumption)|assumption)
       obtain ⟨ad503,e503,hx503_0,hx503_1⟩:=at_T159 HR2.out x21_1 p503 q503
       obtain rfl:ad501=ad503:=(by injection e503)
       replace hx503_0:=(HB.out.cell (World.block_lt_of_cell? w _ hx503_0)).trans hx503_0
       replace hx503_1:=(HB.out.cell (World.block_lt_of_cell? w _ hx503_1)).trans hx503_1
       replace p503:=eq_true p503
       replace q503:=eq_true q503
       try go_wp2_with (first|((with_reducible refine gate_dst (N:=11) rfl ?_);refine box_event ?hg (N:=11) ?hd (cs:=#[.int .i64 0,.int .i64 0]) (t:=159) ?hr ?_;(case hd=>rfl);(case hg=>rfl);(case hr=>first|(go_simp;done)|(go_simp;rfl));intro gb504 hg w14 hbox hb;have n0_:=Aside0.mk (below_step (by repeat (first|(with_reducible first|exact HB.out|apply below_alloc|apply pw_below_drewN|apply below_drew1)|exact HB.out)) hb);have n1_:=Aside0.mk (hbox);have n2_:=Aside0.mk ((by rw [hg];exact (below_size (by repeat (first|(with_reducible first|exact HB.out|apply below_alloc|apply pw_below_drewN|apply below_drew1)|exact HB.out))):w.heap.size≤gb504));have n3_:=Aside0.mk ((by rw [hg];exact (below_size (by repeat (first|(with_reducible first|exact HB.out|apply below_alloc|apply pw_below_drewN|apply below_drew1)|exact HB.out))):w.heap.size≤gb504));clear HB;have HB:=n0_;have BK504:=n1_;have GW504:=n2_;have GE504:=n3_;clear n0_ n1_ n2_ n3_;clear hb hbox hg;have hcz15_0:w14.cell? ⟨gb504,0,none⟩=some (.int .i64 0):=(blk_cell BK504.out 0).trans rfl;have hcz15_1:w14.cell? ⟨gb504,1,none⟩=some (.int .i64 0):=(blk_cell BK504.out 1).trans rfl;have hfz15_0:=blk_frozen BK504.out 0;have hfz15_1:=blk_frozen BK504.out 1))
       have n0_:Aside0 (((w14.setCell ⟨gb504,0,none⟩ (.int .i64 ((rd_T159 l2 x21_1).f0))).setCell ⟨gb504,1,none⟩ (.int .i64 ((rd_T159 l2 x21_1).f1))).heap[gb504]?=some (.cells #[.int .i64 ((rd_T159 l2 x21_1).f0),.int .i64 ((rd_T159 l2 x21_1).f1)] 159 (0,0))):=⟨by (with_reducible repeat (first|refine blk_drewN ?_ _|refine blk_drew ?_|refine blk_alloc ?_ _));refine blk_put (cs:=#[.int .i64 ((rd_T159 l2 x21_1).f0),.int .i64 0]) ?_ 1 _ rfl;(with_reducible repeat (first|refine blk_drewN ?_ _|refine blk_drew ?_|refine blk_alloc ?_ _));refine blk_put (cs:=#[.int .i64 0,.int .i64 0]) ?_ 0 _ rfl;(with_reducible repeat (first|refine blk_drewN ?_ _|refine blk_drew ?_|refine blk_alloc ?_ _));exact BK504.out⟩
       have n1_:Aside0 (Below w.heap.size w ((w14.setCell ⟨gb504,0,none⟩ (.int .i64 ((rd_T159 l2 x21_1).f0))).setCell ⟨gb504,1,none⟩ (.int .i64 ((rd_T159 l2 x21_1).f1)))):=⟨by repeat (first|(with_reducible first|exact HB.out|apply below_alloc|apply pw_below_drewN|apply below_drew1|refine below_set ?_ GE504.out)|exact HB.out)⟩
       (try clear BK504)
       (try clear HB)
       generalize ((w14.setCell ⟨gb504,0,none⟩ (.int .i64 ((rd_T159 l2 x21_1).f0))).setCell ⟨gb504,1,none⟩ (.int .i64 ((rd_T159 l2 x21_1).f1)))=w16 at n0_ n1_ ⊢
       have BK504:=n0_
       have HB:=n1_
       clear n0_ n1_
       have n0_:=Aside0.mk (blk_drew BK504.out)
       have n1_:=Aside0.mk (below_drew1 HB.out)
       clear BK504
       clear HB
       have BK504:=n0_
       have HB:=n1_
       clear n0_ n1_
       refine start_ (n:=14) (S:=fun w'=>w'.cell? ⟨gb504,0,none⟩=some (.int .i64 ((rd_T159 l2 x21_1).f0))∧w'.cell? ⟨gb504,1,none⟩=some (.int .i64 ((rd_T159 l2 x21_1).f1))) (ds:=[]) #[false,false,false,false,false,false,false,false,false,false,false,false,false,false] (by kernel_rfl) rfl rfl ⟨(blk_cell BK504.out 0).trans rfl,(blk_cell BK504.out 1).trans rfl⟩ (fun hHeld=>?_);refine with_tabW plane_extremes.tab6 plane_extremes.bits6 (fun HT_ HW_=>?_)
       generalize w16.drew=w17 at BK504 HB hHeld ⊢
       refine pure_ (i:=0) (N:=some 25) (v:=?_) (a':=?_) #[true,false,false,false,false,false,false,false,false,false,false,false,false,false] rfl rfl (any_of HT_.out (by kernel_rfl)) (fun _ _ _ h=>h) (Or.inl ⟨by rfl,?_⟩) ?_ ?_
       rotate_left
       ·intro w'
        go_simp
        with_reducible rfl
       rotate_left
       ·simp only [Act.put,sp__,i64_w,i32_w]
        rfl
       refine pure_ (i:=1) (N:=some 26) (v:=?_) (a':=?_) #[true,true,false,false,false,false,false,false,false,false,false,false,false,false] rfl rfl (any_of HT_.out (by kernel_rfl)) (fun _ _ _ h=>h) (Or.inl ⟨by rfl,?_⟩) ?_ ?_
       rotate_left
       ·intro w'
        go_simp
        with_reducible rfl
       rotate_left
       ·simp only [Act.put,sp__,i64_w,i32_w]
        rfl
       refine pure_ (i:=2) (N:=some 27) (v:=?_) (a':=?_) #[true,true,true,false,false,false,false,false,false,false,false,false,false,false] rfl rfl (any_of HT_.out (by kernel_rfl)) (fun _ _ _ h=>h) (Or.inl ⟨by rfl,?_⟩) ?_ ?_
       rotate_left
       ·intro w'
        go_simp
        with_reducible rfl
       rotate_left
       ·simp only [Act.put,sp__,i64_w,i32_w]
        rfl
       refine pure_ (i:=6) (N:=some 31) (v:=?_) (a':=?_) #[true,true,true,false,false,false,true,false,false,false,false,false,false,false] rfl rfl (any_of HT_.out (by kernel_rfl)) (fun _ _ _ h=>h) (Or.inl ⟨by rfl,?_⟩) ?_ ?_
       rotate_left
       ·intro w'
        go_simp
        with_reducible rfl
       rotate_left
       ·simp only [Act.put,sp__,i64_w,i32_w]
        rfl
       refine pure_ (i:=7) (N:=some 32) (v:=?_) (a':=?_) #[true,true,true,false,false,false,true,true,false,false,false,false,false,false] rfl rfl (any_of HT_.out (by kernel_rfl)) (fun _ _ _ h=>h) (Or.inl ⟨by rfl,?_⟩) ?_ ?_
       rotate_left
       ·intro w'
        go_simp
        with_reducible rfl
       rotate_left
       ·simp only [Act.put,sp__,i64_w,i32_w]
        rfl
       refine pure_ (i:=8) (N:=some 33) (v:=?_) (a':=?_) #[true,true,true,false,false,false,true,true,true,false,false,false,false,false] rfl rfl (any_of HT_.out (by kernel_rfl)) (fun _ _ _ h=>h) (Or.inl ⟨by rfl,?_⟩) ?_ ?_
       rotate_left
       ·intro w'
        go_simp
        with_reducible rfl
       rotate_left
       ·simp only [Act.put,sp__,i64_w,i32_w]
        rfl
       refine take_ (i:=3) (N:=some 28) (v:=?_) (a':=?_) #[true,true,true,true,false,false,true,true,true,false,false,false,false,false] rfl rfl (take_ofW HT_.out HW_.out (by kernel_rfl)) (fun _ _ _ h=>h) (Or.inl ⟨by rfl,?_⟩) hHeld ?_ ?_
       rotate_left
       ·rintro w' ⟨s0,s1⟩
        go_simp
        with_reducible rfl
       rotate_left
       ·simp only [Act.put,sp__,i64_w,i32_w]
        rfl
       refine take_ (i:=9) (N:=some 34) (v:=?_) (a':=?_) #[true,true,true,true,false,false,true,true,true,true,false,false,false,false] rfl rfl (take_ofW HT_.out HW_.out (by kernel_rfl)) (fun _ _ _ h=>h) (Or.inl ⟨by rfl,?_⟩) hHeld ?_ ?_
       rotate_left
       ·rintro w' ⟨s0,s1⟩
        go_simp
        with_reducible rfl
       rotate_left
       ·simp only [Act.put,sp__,i64_w,i32_w]
        rfl
       refine one_ (i:=4) (N:=some 29) #[true,true,true,true,true,false,true,true,true,true,false,false,false,false] rfl rfl (one_of HT_.out (by kernel_rfl)) (by decide) (fun K hK=>?_)
       refine goes_ Tryz.func143 (by kernel_rfl) rfl #[.int .i64 a0,.int .i64 a1,.agg #[.int .i64 ((rd_T159 l2 x21_1).f0),.int .i64 ((rd_T159 l2 x21_1).f1)]] (by rfl) rfl rfl (by (try simp only [List.map_toArray,List.map_cons,List.map_nil]);first|done|rfl|(simp only [List.length_drop,List.length_take];rfl)) ?_
       with_reducible refine (plane_value.calls a0 a1 ((rd_T159 l2 x21_1).f0) ((rd_T159 l2 x21_1).f1) t505 _ A10.out).mono ?_
       rintro e w18 ⟨rfl,hb⟩
       refine ⟨_,rfl,?_⟩
       have n0_:=Aside0.mk (blk_below (g:=gb504) (o:=.cells #[.int .i64 ((rd_T159 l2 x21_1).f0),.int .i64 ((rd_T159 l2 x21_1).f1)] 159 (0,0)) (by (with_reducible repeat (first|refine blk_drewN ?_ _|refine blk_drew ?_|refine blk_alloc ?_ _));exact BK504.out) hb)
       have n1_:=Aside0.mk (below_step (by repeat (first|(with_reducible first|exact HB.out|apply below_alloc|apply pw_below_drewN|apply below_drew1|refine below_set ?_ GE504.out)|exact HB.out)) hb)
       clear BK504
       clear HB
       have BK504:=n0_
       have HB:=n1_
       clear n0_ n1_
       (try clear hb)
       (try clear hb2)
       (try clear hk)
       (try clear hi)
       refine hK.out _ _ ⟨(blk_cell BK504.out 0).trans rfl,(blk_cell BK504.out 1).trans rfl⟩ (fun hHeld=>?_)
       clear hK K
       refine norm_ (a':=?_) ?_ ?_
       rotate_left
       ·show Act.put _ (some 29) _=_
        simp only [Act.put,sp__,i64_w,i32_w]
        rfl
       refine pure_ (i:=5) (N:=some 30) (v:=?_) (a':=?_) #[true,true,true,true,true,true,true,true,true,true,false,false,false,false] rfl rfl (any_of HT_.out (by kernel_rfl)) (fun _ _ _ h=>h) (Or.inl ⟨by rfl,?_⟩) ?_ ?_
       rotate_left
       ·intro w'
        go_simp
        with_reducible rfl
       rotate_left
       ·simp only [Act.put,sp__,i64_w,i32_w]
        rfl
       refine one_ (i:=10) (N:=some 35) #[true,true,true,true,true,true,true,true,true,true,true,false,false,false] rfl rfl (one_of HT_.out (by kernel_rfl)) (by decide) (fun K hK=>?_)
       refine goes_ Tryz.func143 (by kernel_rfl) rfl #[.int .i64 a0,.int .i64 a1,.agg #[.int .i64 ((rd_T159 l2 x21_1).f0),.int .i64 ((rd_T159 l2 x21_1).f1)]] (by rfl) rfl rfl (by (try simp only [List.map_toArray,List.map_cons,List.map_nil]);first|done|rfl|(simp only [List.length_drop,List.length_take];rfl)) ?_
       with_reducible refine (plane_value.calls a0 a1 ((rd_T159 l2 x21_1).f0) ((rd_T159 l2 x21_1).f1) t506 _ A12.out).mono ?_
       rintro e w19 ⟨rfl,hb⟩
       refine ⟨_,rfl,?_⟩
       have n0_:=Aside0.mk (blk_below (g:=gb504) (o:=.cells #[.int .i64 ((rd_T159 l2 x21_1).f0),.int .i64 ((rd_T159 l2 x21_1).f1)] 159 (0,0)) (by (with_reducible repeat (first|refine blk_drewN ?_ _|refine blk_drew ?_|refine blk_alloc ?_ _));exact BK504.out) hb)
       have n1_:=Aside0.mk (below_step (by repeat (first|(with_reducible first|exact HB.out|apply below_alloc|apply pw_below_drewN|apply below_drew1|refine below_set ?_ GE504.out)|exact HB.out)) hb)
       clear BK504
       clear HB
       have BK504:=n0_
       have HB:=n1_
       clear n0_ n1_
       (try clear hb)
       (try clear hb2)
       (try clear hk)
       (try clear hi)
       refine hK.out _ _ ⟨(blk_cell BK504.out 0).trans rfl,(blk_cell BK504.out 1).trans rfl⟩ (fun hHeld=>?_)
       clear hK K
       refine norm_ (a':=?_) ?_ ?_
       rotate_left
       ·show Act.put _ (some 35) _=_
        simp only [Act.put,sp__,i64_w,i32_w]
        rfl
       refine pure_ (i:=11) (N:=some 36) (v:=?_) (a':=?_) #[true,true,true,true,true,true,true,true,true,true,true,true,false,false] rfl rfl (any_of HT_.out (by kernel_rfl)) (fun _ _ _ h=>h) (Or.inl ⟨by rfl,?_⟩) ?_ ?_
       rotate_left
       ·intro w'
        go_simp
        with_reducible rfl
       rotate_left
       ·simp only [Act.put,sp__,i64_w,i32_w]
        rfl
       refine pure_ (i:=12) (N:=some 8) (v:=?_) (a':=?_) #[true,true,true,true,true,true,true,true,true,true,true,true,true,false] rfl rfl (any_of HT_.out (by kernel_rfl)) (fun _ _ _ h=>h) (Or.inl ⟨by rfl,?_⟩) ?_ ?_
       rotate_left
       ·intro w'
        go_simp
        with_reducible rfl
       rotate_left
       ·simp only [Act.put,sp__,i64_w,i32_w]
        rfl
       refine pure_ (i:=13) (N:=some 9) (v:=?_) (a':=?_) #[true,true,true,true,true,true,true,true,true,true,true,true,true,true] rfl rfl (any_of HT_.out (by kernel_rfl)) (fun _ _ _ h=>h) (Or.inl ⟨by rfl,?_⟩) ?_ ?_
       rotate_left
       ·intro w'
        go_simp
        with_reducible rfl
       rotate_left
       ·simp only [Act.put,sp__,i64_w,i32_w]
        rfl
       refine done_ (done_of HT_.out (by kernel_rfl)) ?_
       try go_wp2
       go_roundg k1
       case measure=>have:=HK1.out;omega
       case rel=>exact ⟨(ji11),(ji13),(wrap64 (x21_1+1)),(by first|rfl|(simp;done)|(simp only [← hji11] <;> (first|rfl|simp))|(simp [*];done)),(by first|rfl|(simp;done)|(simp only [← hji13] <;> (first|rfl|simp))|(simp [*];done)),(by first|rfl|(simp;done)|(simp [*];done)),H',⟨by have:=HK1.out;omega⟩,⟨by repeat (first|(with_reducible first|exact HB.out|apply below_alloc|apply pw_below_drewN|apply below_drew1|refine below_set ?_ GE504.out)|exact HB.out)⟩⟩
      ·rw [if_neg c9] at H
       exact absurd H (by simp)
     ·rw [if_neg c8] at H
      exact absurd H (by simp)
    ·rw [if_neg c7] at H
     have c7b0:decide (x21_1<(l2.length:Int))=false:=decide_eq_false c7
     clear c7
     simp only [Option.some.injEq,Prod.mk.injEq] at H
     obtain ⟨rfl,rfl⟩:=H
     go_wp2
     go_ret2
     exact ⟨by first|rfl|(simp [errW_none,errW_some] <;> rfl)|(simp [*,errW_none,errW_some] <;> rfl),by repeat (first|(with_reducible first|exact HB.out|apply below_alloc|apply pw_below_drewN|apply below_drew1)|exact HB.out)⟩
 ·rw [if_neg c4] at H
  exact absurd H (by simp)
def plane_line.f (k:Nat) (a0:Int) (a1:Int) (l2:List (S159)) (l3:List (S159)):Option (Bool × Int × Int × Int × Int × Int × Int × Bool):=(plane_extremes.f k a0 a1 l2).bind fun bt508=>((plane_extremes.f k a0 a1 l3).bind fun bt510=>(if bt508.2 ≥ bt510.1 then (some (false,0,0,0,0,0,0,false)) else (some (false,0,0,0,wrap64 (2*a0),wrap64 (2*a1),wrap64 (bt508.2+bt510.1),true))))
theorem plane_line.mono:∀ a0 a1 a2 a3 k,LeO (plane_line.f k a0 a1 a2 a3) (plane_line.f (k+1) a0 a1 a2 a3):=by
 intro a0 a1 a2 a3 k
 unfold plane_line.f
 repeat' first
   | (with_reducible exact plane_extremes.mono _ _ _ _)
   | (with_reducible exact LeO.refl _)
   | (with_reducible exact LeO.none _)
   | (with_reducible refine LeO.ite ?_ ?_)
   | (with_reducible refine LeO.bind ?_ (fun _=>?_))
   | exact plane_extremes.mono _ _ _ _
   | exact LeO.none _
   | refine LeO.ite ?_ ?_
   | refine LeO.bind ?_ (fun _=>?_)
set_option maxHeartbeats 8000000 in
set_option maxRecDepth 100000 in
theorem plane_line.calls (k:Nat) (a0:Int) (a1:Int) (A2:Option Addr) (c2:Nat) (l2:List (S159)) (A3:Option Addr) (c3:Nat) (l3:List (S159)) (r1:Bool) (r2:Int) (r3:Int) (r4:Int) (r5:Int) (r6:Int) (r7:Int) (r8:Bool) (w:World) (hr2:Kd.C k159 w A2 l2.length l2) (hc2:l2.length≤c2) (hr3:Kd.C k159 w A3 l3.length l3) (hc3:l3.length≤c3) (h:plane_line.f k a0 a1 l2 l3=some (r1,r2,r3,r4,r5,r6,r7,r8)) :
  Calls Tryz.prog 84 #[.int .i64 a0,.int .i64 a1,.slice A2 l2.length c2,.slice A3 l3.length c3] w fun e w'=>e=.returned (.tuple #[.agg #[.bool r1,.int .i64 r2,.int .i64 r3,.int .i64 r4,.int .i64 r5,.int .i64 r6,.int .i64 r7],.bool r8])∧Below w.heap.size w w':=by
 have hu137:=Tryz.underlying137
 have HR2:=Aside0.mk hr2
 have HC2:=Aside0.mk hc2
 clear hr2 hc2
 have HR3:=Aside0.mk hr3
 have HC3:=Aside0.mk hc3
 clear hr3 hc3
 have HB:=Aside0.mk (Below.refl w.heap.size w)
 have H:((plane_extremes.f k a0 a1 l2).bind fun bt508=>((plane_extremes.f k a0 a1 l3).bind fun bt510=>(if bt508.2 ≥ bt510.1 then (some (false,0,0,0,0,0,0,false)) else (some (false,0,0,0,wrap64 (2*a0),wrap64 (2*a1),wrap64 (bt508.2+bt510.1),true)))))=some (r1,r2,r3,r4,r5,r6,r7,r8):=h
 clear h
 replace H:=Option.bind_eq_some_iff.mp H
 obtain ⟨⟨t508,t509⟩,A50,H⟩:=H
 replace H:((plane_extremes.f k a0 a1 l3).bind fun bt510=>(if t509 ≥ bt510.1 then (some (false,0,0,0,0,0,0,false)) else (some (false,0,0,0,wrap64 (2*a0),wrap64 (2*a1),wrap64 (t509+bt510.1),true))))=some (r1,r2,r3,r4,r5,r6,r7,r8):=H
 have A5:=Aside0.mk A50;(try simp only [Int.toNat_natCast] at A5)
 clear A50
 replace H:=Option.bind_eq_some_iff.mp H
 obtain ⟨⟨t510,t511⟩,A60,H⟩:=H
 replace H:(if t509 ≥ t510 then (some (false,0,0,0,0,0,0,false)) else (some (false,0,0,0,wrap64 (2*a0),wrap64 (2*a1),wrap64 (t509+t510),true)))=some (r1,r2,r3,r4,r5,r6,r7,r8):=H
 have A6:=Aside0.mk A60;(try simp only [Int.toNat_natCast] at A6)
 clear A60
 by_cases c7:t509 ≥ t510
 ·rw [if_pos c7] at H
  have c7b0:decide (t510≤t509)=true:=decide_eq_true c7
  clear c7
  simp only [Option.some.injEq,Prod.mk.injEq] at H
  obtain ⟨rfl,rfl,rfl,rfl,rfl,rfl,rfl,rfl⟩:=H
  go_enter Tryz.func84,Tryz.ntmps84
  go_wp2_with (first|((with_reducible refine gate_dst (N:=8) rfl ?_);refine box_event ?hg (N:=8) ?hd (cs:=#[.bool false,.int .i64 0,.int .i64 0,.int .i64 0,.int .i64 0,.int .i64 0,.int .i64 0]) (t:=137) ?hr ?_;(case hd=>rfl);(case hg=>rfl);(case hr=>first|(go_simp;done)|(go_simp;rfl));intro gb507 hg w8 hbox hb;have n0_:=Aside0.mk (below_step (by repeat (first|(with_reducible first|exact HB.out|apply below_alloc|apply pw_below_drewN|apply below_drew1)|exact HB.out)) hb);have n1_:=Aside0.mk (hbox);have n2_:=Aside0.mk ((by rw [hg];exact (below_size (by repeat (first|(with_reducible first|exact HB.out|apply below_alloc|apply pw_below_drewN|apply below_drew1)|exact HB.out))):w.heap.size≤gb507));have n3_:=Aside0.mk ((by rw [hg];exact (below_size (by repeat (first|(with_reducible first|exact HB.out|apply below_alloc|apply pw_below_drewN|apply below_drew1)|exact HB.out))):w.heap.size≤gb507));clear HB;have HB:=n0_;have BK507:=n1_;have GW507:=n2_;have GE507:=n3_;clear n0_ n1_ n2_ n3_;clear hb hbox hg)|((with_reducible refine gate_callee (f:=121) rfl ?_);refine goesL_ (some 18) rfl rfl Tryz.func121 (by kernel_rfl) rfl #[.int .i64 a0,.int .i64 a1,.slice A2 l2.length c2] rfl (by (try simp only [List.map_toArray,List.map_cons,List.map_nil]);first|done|rfl|(simp only [List.length_drop,List.length_take];rfl)) ?_;(with_reducible refine (plane_extremes.calls k a0 a1 _ _ l2 t508 t509 _ ?side1 ?side2 A5.out).mono ?_);(case side1=>repeat (first|exact (Kd.C_below HR2.out HB.out)|(with_reducible refine Kd.C_alloc ?_ _)|(with_reducible refine Kd.C_drewN ?_ _)|(with_reducible refine Kd.C_drew ?_)));(case side2=>exact HC2.out);rintro e w9 ⟨rfl,hb⟩;refine ⟨_,rfl,?_⟩;have n0_:=Aside0.mk (blk_below (g:=gb507) (o:=.cells #[.bool false,.int .i64 0,.int .i64 0,.int .i64 0,.int .i64 0,.int .i64 0,.int .i64 0] 137 (0,0)) (by (with_reducible repeat (first|refine blk_drewN ?_ _|refine blk_drew ?_|refine blk_alloc ?_ _));exact BK507.out) hb);have n1_:=Aside0.mk (below_step (by repeat (first|(with_reducible first|exact HB.out|apply below_alloc|apply pw_below_drewN|apply below_drew1|refine below_set ?_ GE507.out)|exact HB.out)) hb);clear BK507;clear HB;have BK507:=n0_;have HB:=n1_;clear n0_ n1_;(try clear hb);(try clear hb2);(try clear hk);(try clear hi))|((with_reducible refine gate_callee (f:=121) rfl ?_);refine goesL_ (some 25) rfl rfl Tryz.func121 (by kernel_rfl) rfl #[.int .i64 a0,.int .i64 a1,.slice A3 l3.length c3] rfl (by (try simp only [List.map_toArray,List.map_cons,List.map_nil]);first|done|rfl|(simp only [List.length_drop,List.length_take];rfl)) ?_;(with_reducible refine (plane_extremes.calls k a0 a1 _ _ l3 t510 t511 _ ?side1 ?side2 A6.out).mono ?_);(case side1=>repeat (first|exact (Kd.C_below HR3.out HB.out)|(with_reducible refine Kd.C_alloc ?_ _)|(with_reducible refine Kd.C_drewN ?_ _)|(with_reducible refine Kd.C_drew ?_)));(case side2=>exact HC3.out);rintro e w10 ⟨rfl,hb⟩;refine ⟨_,rfl,?_⟩;have n0_:=Aside0.mk (blk_below (g:=gb507) (o:=.cells #[.bool false,.int .i64 0,.int .i64 0,.int .i64 0,.int .i64 0,.int .i64 0,.int .i64 0] 137 (0,0)) (by (with_reducible repeat (first|refine blk_drewN ?_ _|refine blk_drew ?_|refine blk_alloc ?_ _));exact BK507.out) hb);have n1_:=Aside0.mk (below_step (by repeat (first|(with_reducible first|exact HB.out|apply below_alloc|apply pw_below_drewN|apply below_drew1|refine below_set ?_ GE507.out)|exact HB.out)) hb);clear BK507;clear HB;have BK507:=n0_;have HB:=n1_;clear n0_ n1_;(try clear hb);(try clear hb2);(try clear hk);(try clear hi);have hcz11_0:w10.cell? ⟨gb507,0,none⟩=some (.bool false):=(blk_cell BK507.out 0).trans rfl;have hcz11_1:w10.cell? ⟨gb507,1,none⟩=some (.int .i64 0):=(blk_cell BK507.out 1).trans rfl;have hcz11_2:w10.cell? ⟨gb507,2,none⟩=some (.int .i64 0):=(blk_cell BK507.out 2).trans rfl;have hcz11_3:w10.cell? ⟨gb507,3,none⟩=some (.int .i64 0):=(blk_cell BK507.out 3).trans rfl;have hcz11_4:w10.cell? ⟨gb507,4,none⟩=some (.int .i64 0):=(blk_cell BK507.out 4).trans rfl;have hcz11_5:w10.cell? ⟨gb507,5,none⟩=some (.int .i64 0):=(blk_cell BK507.out 5).trans rfl;have hcz11_6:w10.cell? ⟨gb507,6,none⟩=some (.int .i64 0):=(blk_cell BK507.out 6).trans rfl;have hfz11_0:=blk_frozen BK507.out 0;have hfz11_1:=blk_frozen BK507.out 1;have hfz11_2:=blk_frozen BK507.out 2;have hfz11_3:=blk_frozen BK507.out 3;have hfz11_4:=blk_frozen BK507.out 4;have hfz11_5:=blk_frozen BK507.out 5;have hfz11_6:=blk_frozen BK507.out 6))
  refine bodyPost_ret (results_ct rfl _ _ gb507 137 #[.bool false,.int .i64 0,.int .i64 0,.int .i64 0,.int .i64 0,.int .i64 0,.int .i64 0] (0,0) _ rfl (by (with_reducible repeat (first|refine blk_drewN ?_ _|refine blk_drew ?_|refine blk_alloc ?_ _));refine blk_put (cs:=#[.bool false,.int .i64 0,.int .i64 0,.int .i64 0,.int .i64 0,.int .i64 0,.int .i64 0]) ?_ 6 _ rfl;(with_reducible repeat (first|refine blk_drewN ?_ _|refine blk_drew ?_|refine blk_alloc ?_ _));refine blk_put (cs:=#[.bool false,.int .i64 0,.int .i64 0,.int .i64 0,.int .i64 0,.int .i64 0,.int .i64 0]) ?_ 5 _ rfl;(with_reducible repeat (first|refine blk_drewN ?_ _|refine blk_drew ?_|refine blk_alloc ?_ _));refine blk_put (cs:=#[.bool false,.int .i64 0,.int .i64 0,.int .i64 0,.int .i64 0,.int .i64 0,.int .i64 0]) ?_ 4 _ rfl;(with_reducible repeat (first|refine blk_drewN ?_ _|refine blk_drew ?_|refine blk_alloc ?_ _));refine blk_put (cs:=#[.bool false,.int .i64 0,.int .i64 0,.int .i64 0,.int .i64 0,.int .i64 0,.int .i64 0]) ?_ 3 _ rfl;(with_reducible repeat (first|refine blk_drewN ?_ _|refine blk_drew ?_|refine blk_alloc ?_ _));refine blk_put (cs:=#[.bool false,.int .i64 0,.int .i64 0,.int .i64 0,.int .i64 0,.int .i64 0,.int .i64 0]) ?_ 2 _ rfl;(with_reducible repeat (first|refine blk_drewN ?_ _|refine blk_drew ?_|refine blk_alloc ?_ _));refine blk_put (cs:=#[.bool false,.int .i64 0,.int .i64 0,.int .i64 0,.int .i64 0,.int .i64 0,.int .i64 0]) ?_ 1 _ rfl;(with_reducible repeat (first|refine blk_drewN ?_ _|refine blk_drew ?_|refine blk_alloc ?_ _));refine blk_put (cs:=#[.bool false,.int .i64 0,.int .i64 0,.int .i64 0,.int .i64 0,.int .i64 0,.int .i64 0]) ?_ 0 _ rfl;(with_reducible repeat (first|refine blk_drewN ?_ _|refine blk_drew ?_|refine blk_alloc ?_ _));exact BK507.out) Tryz.underlying137 rfl (by kernel_rfl)) rfl ?_
  exact ⟨by first|rfl|(simp [errW_none,errW_some] <;> rfl)|(simp [*,errW_none,errW_some] <;> rfl),by repeat (first|(with_reducible first|exact HB.out|apply below_alloc|apply pw_below_drewN|apply below_drew1|refine below_set ?_ GE507.out)|exact HB.out)⟩
 ·rw [if_neg c7] at H
  have c7b0:decide (t510≤t509)=false:=decide_eq_false c7
  clear c7
  simp only [Option.some.injEq,Prod.mk.injEq] at H
  obtain ⟨rfl,rfl,rfl,rfl,rfl,rfl,rfl,rfl⟩:=H
  go_enter Tryz.func84,Tryz.ntmps84
  go_wp2_with (first|((with_reducible refine gate_dst (N:=8) rfl ?_);refine box_event ?hg (N:=8) ?hd (cs:=#[.bool false,.int .i64 0,.int .i64 0,.int .i64 0,.int .i64 0,.int .i64 0,.int .i64 0]) (t:=137) ?hr ?_;(case hd=>rfl);(case hg=>rfl);(case hr=>first|(go_simp;done)|(go_simp;rfl));intro gb507 hg w12 hbox hb;have n0_:=Aside0.mk (below_step (by repeat (first|(with_reducible first|exact HB.out|apply below_alloc|apply pw_below_drewN|apply below_drew1)|exact HB.out)) hb);have n1_:=Aside0.mk (hbox);have n2_:=Aside0.mk ((by rw [hg];exact (below_size (by repeat (first|(with_reducible first|exact HB.out|apply below_alloc|apply pw_below_drewN|apply below_drew1)|exact HB.out))):w.heap.size≤gb507));have n3_:=Aside0.mk ((by rw [hg];exact (below_size (by repeat (first|(with_reducible first|exact HB.out|apply below_alloc|apply pw_below_drewN|apply below_drew1)|exact HB.out))):w.heap.size≤gb507));clear HB;have HB:=n0_;have BK507:=n1_;have GW507:=n2_;have GE507:=n3_;clear n0_ n1_ n2_ n3_;clear hb hbox hg)|((with_reducible refine gate_callee (f:=121) rfl ?_);refine goesL_ (some 18) rfl rfl Tryz.func121 (by kernel_rfl) rfl #[.int .i64 a0,.int .i64 a1,.slice A2 l2.length c2] rfl (by (try simp only [List.map_toArray,List.map_cons,List.map_nil]);first|done|rfl|(simp only [List.length_drop,List.length_take];rfl)) ?_;(with_reducible refine (plane_extremes.calls k a0 a1 _ _ l2 t508 t509 _ ?side1 ?side2 A5.out).mono ?_);(case side1=>repeat (first|exact (Kd.C_below HR2.out HB.out)|(with_reducible refine Kd.C_alloc ?_ _)|(with_reducible refine Kd.C_drewN ?_ _)|(with_reducible refine Kd.C_drew ?_)));(case side2=>exact HC2.out);rintro e w13 ⟨rfl,hb⟩;refine ⟨_,rfl,?_⟩;have n0_:=Aside0.mk (blk_below (g:=gb507) (o:=.cells #[.bool false,.int .i64 0,.int .i64 0,.int .i64 0,.int .i64 0,.int .i64 0,.int .i64 0] 137 (0,0)) (by (with_reducible repeat (first|refine blk_drewN ?_ _|refine blk_drew ?_|refine blk_alloc ?_ _));exact BK507.out) hb);have n1_:=Aside0.mk (below_step (by repeat (first|(with_reducible first|exact HB.out|apply below_alloc|apply pw_below_drewN|apply below_drew1|refine below_set ?_ GE507.out)|exact HB.out)) hb);clear BK507;clear HB;have BK507:=n0_;have HB:=n1_;clear n0_ n1_;(try clear hb);(try clear hb2);(try clear hk);(try clear hi))|((with_reducible refine gate_callee (f:=121) rfl ?_);refine goesL_ (some 25) rfl rfl Tryz.func121 (by kernel_rfl) rfl #[.int .i64 a0,.int .i64 a1,.slice A3 l3.length c3] rfl (by (try simp only [List.map_toArray,List.map_cons,List.map_nil]);first|done|rfl|(simp only [List.length_drop,List.length_take];rfl)) ?_;(with_reducible refine (plane_extremes.calls k a0 a1 _ _ l3 t510 t511 _ ?side1 ?side2 A6.out).mono ?_);(case side1=>repeat (first|exact (Kd.C_below HR3.out HB.out)|(with_reducible refine Kd.C_alloc ?_ _)|(with_reducible refine Kd.C_drewN ?_ _)|(with_reducible refine Kd.C_drew ?_)));(case side2=>exact HC3.out);rintro e w14 ⟨rfl,hb⟩;refine ⟨_,rfl,?_⟩;have n0_:=Aside0.mk (blk_below (g:=gb507) (o:=.cells #[.bool false,.int .i64 0,.int .i64 0,.int .i64 0,.int .i64 0,.int .i64 0,.int .i64 0] 137 (0,0)) (by (with_reducible repeat (first|refine blk_drewN ?_ _|refine blk_drew ?_|refine blk_alloc ?_ _));exact BK507.out) hb);have n1_:=Aside0.mk (below_step (by repeat (first|(with_reducible first|exact HB.out|apply below_alloc|apply pw_below_drewN|apply below_drew1|refine below_set ?_ GE507.out)|exact HB.out)) hb);clear BK507;clear HB;have BK507:=n0_;have HB:=n1_;clear n0_ n1_;(try clear hb);(try clear hb2);(try clear hk);(try clear hi);have hcz15_0:w14.cell? ⟨gb507,0,none⟩=some (.bool false):=(blk_cell BK507.out 0).trans rfl;have hcz15_1:w14.cell? ⟨gb507,1,none⟩=some (.int .i64 0):=(blk_cell BK507.out 1).trans rfl;have hcz15_2:w14.cell? ⟨gb507,2,none⟩=some (.int .i64 0):=(blk_cell BK507.out 2).trans rfl;have hcz15_3:w14.cell? ⟨gb507,3,none⟩=some (.int .i64 0):=(blk_cell BK507.out 3).trans rfl;have hcz15_4:w14.cell? ⟨gb507,4,none⟩=some (.int .i64 0):=(blk_cell BK507.out 4).trans rfl;have hcz15_5:w14.cell? ⟨gb507,5,none⟩=some (.int .i64 0):=(blk_cell BK507.out 5).trans rfl;have hcz15_6:w14.cell? ⟨gb507,6,none⟩=some (.int .i64 0):=(blk_cell BK507.out 6).trans rfl;have hfz15_0:=blk_frozen BK507.out 0;have hfz15_1:=blk_frozen BK507.out 1;have hfz15_2:=blk_frozen BK507.out 2;have hfz15_3:=blk_frozen BK507.out 3;have hfz15_4:=blk_frozen BK507.out 4;have hfz15_5:=blk_frozen BK507.out 5;have hfz15_6:=blk_frozen BK507.out 6))
  refine bodyPost_ret (results_ct rfl _ _ gb507 137 #[.bool false,.int .i64 0,.int .i64 0,.int .i64 0,.int .i64 (wrap64 (2*a0)),.int .i64 (wrap64 (2*a1)),.int .i64 (wrap64 (t509+t510))] (0,0) _ rfl (by (with_reducible repeat (first|refine blk_drewN ?_ _|refine blk_drew ?_|refine blk_alloc ?_ _));refine blk_put (cs:=#[.bool false,.int .i64 0,.int .i64 0,.int .i64 0,.int .i64 (wrap64 (2*a0)),.int .i64 (wrap64 (2*a1)),.int .i64 0]) ?_ 6 _ rfl;(with_reducible repeat (first|refine blk_drewN ?_ _|refine blk_drew ?_|refine blk_alloc ?_ _));refine blk_put (cs:=#[.bool false,.int .i64 0,.int .i64 0,.int .i64 0,.int .i64 (wrap64 (2*a0)),.int .i64 0,.int .i64 0]) ?_ 5 _ rfl;(with_reducible repeat (first|refine blk_drewN ?_ _|refine blk_drew ?_|refine blk_alloc ?_ _));refine blk_put (cs:=#[.bool false,.int .i64 0,.int .i64 0,.int .i64 0,.int .i64 0,.int .i64 0,.int .i64 0]) ?_ 4 _ rfl;(with_reducible repeat (first|refine blk_drewN ?_ _|refine blk_drew ?_|refine blk_alloc ?_ _));refine blk_put (cs:=#[.bool false,.int .i64 0,.int .i64 0,.int .i64 0,.int .i64 0,.int .i64 0,.int .i64 0]) ?_ 3 _ rfl;(with_reducible repeat (first|refine blk_drewN ?_ _|refine blk_drew ?_|refine blk_alloc ?_ _));refine blk_put (cs:=#[.bool false,.int .i64 0,.int .i64 0,.int .i64 0,.int .i64 0,.int .i64 0,.int .i64 0]) ?_ 2 _ rfl;(with_reducible repeat (first|refine blk_drewN ?_ _|refine blk_drew ?_|refine blk_alloc ?_ _));refine blk_put (cs:=#[.bool false,.int .i64 0,.int .i64 0,.int .i64 0,.int .i64 0,.int .i64 0,.int .i64 0]) ?_ 1 _ rfl;(with_reducible repeat (first|refine blk_drewN ?_ _|refine blk_drew ?_|refine blk_alloc ?_ _));refine blk_put (cs:=#[.bool false,.int .i64 0,.int .i64 0,.int .i64 0,.int .i64 0,.int .i64 0,.int .i64 0]) ?_ 0 _ rfl;(with_reducible repeat (first|refine blk_drewN ?_ _|refine blk_drew ?_|refine blk_alloc ?_ _));exact BK507.out) Tryz.underlying137 rfl (by kernel_rfl)) rfl ?_
  exact ⟨by first|rfl|(simp [errW_none,errW_some] <;> rfl)|(simp [*,errW_none,errW_some] <;> rfl),by repeat (first|(with_reducible first|exact HB.out|apply below_alloc|apply pw_below_drewN|apply below_drew1|refine below_set ?_ GE507.out)|exact HB.out)⟩
def plane_crossing.j0:Nat→Int→Int→Int→Int→Int→Bool→Int→Int→Int→Int→Int→Int→Int→Int→Option (Bool × Int × Int × Int × Int × Int × Int × Bool)
 | 0,_,_,_,_,_,_,_,_,_,_,_,_,_,_=>none
 | k+1,x6,x7,x8,x9,x10,x54,x513000,x513001,x513002,x513003,x514000,x514001,x514002,x514003=>if x54=true then (some (false,0,0,0,0,0,0,false)) else (if x10<0 then (some (true,wrap64 ((wrap64 (x513000*(wrap64 (-x10))))+(wrap64 ((wrap64 (-(wrap64 ((wrap64 ((wrap64 (x514000-x513000))*x9))-(wrap64 ((wrap64 (x514001-x513001))*x8))))))*x6))),wrap64 ((wrap64 (x513001*(wrap64 (-x10))))+(wrap64 ((wrap64 (-(wrap64 ((wrap64 ((wrap64 (x514000-x513000))*x9))-(wrap64 ((wrap64 (x514001-x513001))*x8))))))*x7))),wrap64 (-x10),0,0,0,true)) else (some (true,wrap64 ((wrap64 (x513000*x10))+(wrap64 ((wrap64 ((wrap64 ((wrap64 (x514000-x513000))*x9))-(wrap64 ((wrap64 (x514001-x513001))*x8))))*x6))),wrap64 ((wrap64 (x513001*x10))+(wrap64 ((wrap64 ((wrap64 ((wrap64 (x514000-x513000))*x9))-(wrap64 ((wrap64 (x514001-x513001))*x8))))*x7))),x10,0,0,0,true)))
def plane_crossing.f (k:Nat) (a0_0:Int) (a0_1:Int) (a0_2:Int) (a0_3:Int) (a1_0:Int) (a1_1:Int) (a1_2:Int) (a1_3:Int):Option (Bool × Int × Int × Int × Int × Int × Int × Bool):=if (wrap64 ((wrap64 ((wrap64 (a0_2-a0_0))*(wrap64 (a1_3-a1_1))))-(wrap64 ((wrap64 (a0_3-a0_1))*(wrap64 (a1_2-a1_0))))))=0 then (plane_crossing.j0 k (wrap64 (a0_2-a0_0)) (wrap64 (a0_3-a0_1)) (wrap64 (a1_2-a1_0)) (wrap64 (a1_3-a1_1)) (wrap64 ((wrap64 ((wrap64 (a0_2-a0_0))*(wrap64 (a1_3-a1_1))))-(wrap64 ((wrap64 (a0_3-a0_1))*(wrap64 (a1_2-a1_0)))))) true a0_0 a0_1 a0_2 a0_3 a1_0 a1_1 a1_2 a1_3) else ((plane_segment_meets.f k a0_0 a0_1 a0_2 a0_3 a1_0 a1_1 a1_2 a1_3).bind fun t515=>(plane_crossing.j0 k (wrap64 (a0_2-a0_0)) (wrap64 (a0_3-a0_1)) (wrap64 (a1_2-a1_0)) (wrap64 (a1_3-a1_1)) (wrap64 ((wrap64 ((wrap64 (a0_2-a0_0))*(wrap64 (a1_3-a1_1))))-(wrap64 ((wrap64 (a0_3-a0_1))*(wrap64 (a1_2-a1_0)))))) (!t515) a0_0 a0_1 a0_2 a0_3 a1_0 a1_1 a1_2 a1_3))
theorem plane_crossing.mono_l:∀ k,(∀ y0 y1 y2 y3 y4 y5 y6 y7 y8 y9 y10 y11 y12 y13,LeO (plane_crossing.j0 k y0 y1 y2 y3 y4 y5 y6 y7 y8 y9 y10 y11 y12 y13) (plane_crossing.j0 (k+1) y0 y1 y2 y3 y4 y5 y6 y7 y8 y9 y10 y11 y12 y13))
 | 0=>fun _ _ _ _ _ _ _ _ _ _ _ _ _ _ r h=>by simp [plane_crossing.j0] at h
 | k+1=>by
  have ih0:=plane_crossing.mono_l k
  ·intro y0 y1 y2 y3 y4 y5 y6 y7 y8 y9 y10 y11 y12 y13
   unfold plane_crossing.j0
   repeat' first
   | (with_reducible exact ih0 _ _ _ _ _ _ _ _ _ _ _ _ _ _)
   | (with_reducible exact plane_segment_meets.mono _ _ _ _ _ _ _ _ _)
   | (with_reducible exact LeO.refl _)
   | (with_reducible exact LeO.none _)
   | (with_reducible refine LeO.ite ?_ ?_)
   | (with_reducible refine LeO.bind ?_ (fun _=>?_))
   | exact ih0 _ _ _ _ _ _ _ _ _ _ _ _ _ _
   | exact plane_segment_meets.mono _ _ _ _ _ _ _ _ _
   | exact LeO.none _
   | refine LeO.ite ?_ ?_
   | refine LeO.bind ?_ (fun _=>?_)
theorem plane_crossing.mono:∀ a0 a1 a2 a3 a4 a5 a6 a7 k,LeO (plane_crossing.f k a0 a1 a2 a3 a4 a5 a6 a7) (plane_crossing.f (k+1) a0 a1 a2 a3 a4 a5 a6 a7):=by
 intro a0 a1 a2 a3 a4 a5 a6 a7 k
 have ih0:=plane_crossing.mono_l k
 unfold plane_crossing.f
 repeat' first
   | (with_reducible exact ih0 _ _ _ _ _ _ _ _ _ _ _ _ _ _)
   | (with_reducible exact plane_segment_meets.mono _ _ _ _ _ _ _ _ _)
   | (with_reducible exact LeO.refl _)
   | (with_reducible exact LeO.none _)
   | (with_reducible refine LeO.ite ?_ ?_)
   | (with_reducible refine LeO.bind ?_ (fun _=>?_))
   | exact ih0 _ _ _ _ _ _ _ _ _ _ _ _ _ _
   | exact plane_segment_meets.mono _ _ _ _ _ _ _ _ _
   | exact LeO.none _
   | refine LeO.ite ?_ ?_
   | refine LeO.bind ?_ (fun _=>?_)
end Go.Proofs.YtiioklboaookiaaGreatDoor.Q
namespace Go.Proofs.YtiioklboaookiaaGreatDoor.Q
open Go.RowKit Go.Proofs.YtiioklboaookiaaGreatDoorW.PrintWords Go.Proofs.YtiioklboaookiaaGreatDoorW.PrintLast Go.Proofs.YtiioklboaookiaaGreatDoor.Hand Go.Proofs.YtiioklboaookiaaGreatDoorW.PrintMore
attribute [local go_sem] max2_int min2_int max_two min_two max_three min_three max_four min_four
set_option linter.unusedVariables false
set_option linter.unusedSimpArgs false
def silversidetop_mod.f (a0:Int) (a1:Int):Option (Int):=if (IntKind.u64.wrap (a1))=0 then (none) else (some (wrap64 (Int.tmod (IntKind.u64.wrap (a0)) (IntKind.u64.wrap (a1)))))
set_option maxHeartbeats 8000000 in
set_option maxRecDepth 100000 in
theorem silversidetop_mod.calls (a0:Int) (a1:Int) (r:Int) (w:World) (h:silversidetop_mod.f a0 a1=some r) :
  Calls Tryz.prog 10 #[.int .i64 a0,.int .i64 a1] w fun e w'=>e=.returned (.int .i64 r)∧Drawn0 w w':=by
 have H:(if (IntKind.u64.wrap (a1))=0 then (none) else (some (wrap64 (Int.tmod (IntKind.u64.wrap (a0)) (IntKind.u64.wrap (a1))))))=some r:=h
 clear h
 by_cases c3:(IntKind.u64.wrap (a1))=0
 ·rw [if_pos c3] at H
  exact absurd H (by simp)
 ·rw [if_neg c3] at H
  have c3b0:((IntKind.u64.wrap (a1)) == 0)=false:=beq_eq_false_iff_ne.mpr c3
  have c3b1:((IntKind.u64.wrap (a1)) != 0)=true:=bne_iff_ne.mpr c3
  obtain rfl:=Option.some.inj H
  go_enter Tryz.func10,Tryz.ntmps10
  go_wp2
  go_ret
  exact ⟨by first|rfl|(simp;done)|(simp [*];done),by repeat (first|exact Drawn0.refl _|apply Drawn0.step)⟩
end Go.Proofs.YtiioklboaookiaaGreatDoor.Q
