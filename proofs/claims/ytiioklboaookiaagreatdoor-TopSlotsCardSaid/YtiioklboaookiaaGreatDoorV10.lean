/- A part of the proof: what the law's row needs. -/
import Derived.Test.YtiioklboaookiaaGreatDoorV9
namespace Go.Proofs.YtiioklboaookiaaGreatDoor.Q
open Go.RowKit Go.Proofs.YtiioklboaookiaaGreatDoorW.PrintWords Go.Proofs.YtiioklboaookiaaGreatDoorW.PrintLast Go.Proofs.YtiioklboaookiaaGreatDoor.Hand Go.Proofs.YtiioklboaookiaaGreatDoorW.PrintMore
attribute [local go_sem] max2_int min2_int max_two min_two max_three min_three max_four min_four
set_option linter.unusedVariables false
set_option linter.unusedSimpArgs false
theorem ptIn_ok {p:Pt} (h:ptIn p):ptOk p=true:=decide_eq_true h
theorem isSet_rect {l:List Pt} (h4:l.length=4) (hp:∀ x,x ∈ l→ptIn x) (g c:Nat) (w:World) (hC:Kd.C k159 w (some ⟨g,0,none⟩) 4 l) :
  Calls Tryz.prog 78 #[.slice (some ⟨g,0,none⟩) 4 c] w fun e w'=>e=.returned (.bool true)∧Below w.heap.size w w':=by
 have h:=isSet_walk (some ⟨g,0,none⟩) c l w (by omega) (by omega) (by rw [h4];exact hC) (fun x hx=>ptIn_ok (hp x hx))
 rw [h4] at h;exact h
def NoSep (p q:List Pt) (D:List Pt) (i:Nat):Prop:=∀ j,j<i→plane_line.f 5 (rd_T159 D (j:Int)).f0 (rd_T159 D (j:Int)).f1 p q=some (false,0,0,0,0,0,0,false)
theorem sep_found {a b c d a' b' c' d' : Int} (hr:RectOk a b c d) (hr' : RectOk a' b' c' d') (hg:GapOk a b c d a' b' c' d'):¬ NoSep (rect a b c d) (rect a' b' c' d') (dirsF (rect a b c d) (rect a' b' c' d')) 33:=fun h=>by
 obtain ⟨u,v,hm,hlt⟩:=gap_line hr hr' hg (c-a) (by obtain ⟨_,h,_⟩:=hr;omega)
 have hmem:=dirs_axis a b c d (rect a' b' c' d') u v hm
 obtain ⟨j,hj,e⟩:=List.mem_iff_getElem.1 hmem
 have hj' : j<33:=by rw [dirs_len] at hj;exact hj
 have h1:=h j hj'
 rw [rdP hj,e] at h1
 have hd:dirIn1 u v:=dirs_in rfl rfl (rect_in hr) (rect_in hr') _ hmem
 obtain ⟨hi,lo,e1,e2,r⟩:=line_eq hd.in_ (rect a b c d) (rect a' b' c' d') rfl rfl (rect_in hr) (rect_in hr')
 have:=hlt hi lo e1 e2
 rcases r with ⟨_,r⟩ | ⟨r,_⟩
 ·rw [r] at h1
  have h2:=congrArg (fun z:Bool × Int × Int × Int × Int × Int × Int × Bool=>z.2.2.2.2.2.2.2) (Option.some.inj h1)
  cases h2
 ·omega
set_option maxHeartbeats 8000000 in
set_option maxRecDepth 100000 in
theorem Separate_walk (a b c d a' b' c' d' : Int) (hr:RectOk a b c d) (hr' : RectOk a' b' c' d') (hg:GapOk a b c d a' b' c' d') (gp cp gq cq:Nat) (w:World) (hcp:4≤cp) (hcq:4≤cq) (hP:Kd.C k159 w (some ⟨gp,0,none⟩) 4 (rect a b c d)) (hQ:Kd.C k159 w (some ⟨gq,0,none⟩) 4 (rect a' b' c' d')) :
  Calls Tryz.prog 47 #[.slice (some ⟨gp,0,none⟩) 4 cp,.slice (some ⟨gq,0,none⟩) 4 cq] w fun e w'=>∃ U V W,e=.returned (.tuple #[.agg #[.bool false,.int .i64 0,.int .i64 0,.int .i64 0,.int .i64 U,.int .i64 V,.int .i64 W],.int .i64 0])∧SepOk U V W (rect a b c d) (rect a' b' c' d')∧Below w.heap.size w w':=by
 have HRA:=hid hr
 have HRB:=hid hr'
 have HNO:=hid (sep_found hr hr' hg)
 have HPI:=hid (rect_in hr)
 have HQI:=hid (rect_in hr')
 obtain ⟨p,hp⟩:∃ p,p=rect a b c d:=⟨_,rfl⟩
 obtain ⟨q,hq⟩:∃ q,q=rect a' b' c' d':=⟨_,rfl⟩
 have h4:p.length=4:=by rw [hp];rfl
 have h4' : q.length=4:=by rw [hq];rfl
 have HCP:=hid (fun (gp cp:Nat) (w:World) (hcp:4≤cp) (hP:Kd.C k159 w (some ⟨gp,0,none⟩) 4 (rect a b c d))=>corners_walk a b c d HRA.out gp cp w hcp hP)
 have HCQ:=hid (fun (gp cp:Nat) (w:World) (hcp:4≤cp) (hP:Kd.C k159 w (some ⟨gp,0,none⟩) 4 (rect a' b' c' d'))=>corners_walk a' b' c' d' HRB.out gp cp w hcp hP)
 rw [← hp] at HPI hP HNO HCP ⊢
 rw [← hq] at HQI hQ HNO HCQ ⊢
 have HP:=Aside0.mk hP
 have HQ:=Aside0.mk hQ
 have H4:=hid h4
 have H4':=hid h4'
 clear hr hr' hg hp hq hP hQ h4 h4'
 obtain ⟨B,hB⟩:∃ B,B=w.heap.size:=⟨_,rfl⟩
 have HBE:=hid hB
 rw [← hB]
 clear hB
 go_enter Tryz.func47,Tryz.ntmps47
 go_wp2_with (fail)
 have HZ0:=hid (blk_new w (.cells #[.bool false,.int .i64 0,.int .i64 0,.int .i64 0,.int .i64 0,.int .i64 0,.int .i64 0] 137))
 have HB0:=Aside0.mk (show Below B w (w.alloc (.cells #[.bool false,.int .i64 0,.int .i64 0,.int .i64 0,.int .i64 0,.int .i64 0,.int .i64 0] 137)) from (Below.refl _ _).alloc (by rw [HBE.out];exact Nat.le_refl _) _)
 refine (isSet_rect H4.out HPI.out gp cp _ (Kd.C_alloc HP.out _)).mono ?_
 rintro e w1 ⟨rfl,hb1⟩
 have HB1:=Aside0.mk (HB0.out.trans (hb1.mono (by rw [HBE.out];simp)))
 have HZ1:=hid (blk_below HZ0.out hb1)
 clear hb1 HZ0 HB0
 go_wp2_with (fail)
 have HBw1:=HB1.out
 rw [HBE.out] at HBw1
 refine (isSet_rect H4'.out HQI.out gq cq _ (Kd.C_below HQ.out HBw1)).mono ?_
 rintro e w2 ⟨rfl,hb2⟩
 have HB2:=Aside0.mk (HB1.out.trans (hb2.mono (by rw [HBE.out];exact HB1.out.size)))
 have HZ2:=hid (blk_below HZ1.out hb2)
 clear hb2 HZ1 HB1 HBw1
 go_wp2_with (fail)
 have HBw2:=HB2.out
 rw [HBE.out] at HBw2
 refine (HCP.out gp cp _ hcp (Kd.C_below HP.out HBw2)).mono ?_
 rintro e w3 ⟨v3,rfl,hr3,hb3⟩
 obtain ⟨g3,c3,rfl,_,_,hc3⟩:=R_own hr3 3 (by rw [H4.out])
 have HB3:=Aside0.mk (HB2.out.trans (hb3.mono (by rw [HBE.out];exact HB2.out.size)))
 have HZ3:=hid (blk_below HZ2.out hb3)
 have HP3:=Aside0.mk (show Kd.C k159 w3 (some ⟨g3,0,none⟩) 4 p by
  obtain ⟨A',c',he,_,hC⟩:=Kd.R_reads hr3
  rw [H4.out] at he hC;cases he;exact hC)
 clear hr3 hb3 HZ2 HB2 HBw2 HP
 go_wp2_with (fail)
 have HBw3:=HB3.out
 rw [HBE.out] at HBw3
 refine (HCQ.out gq cq _ hcq (Kd.C_below HQ.out HBw3)).mono ?_
 rintro e w4 ⟨v4,rfl,hr4,hb4⟩
 obtain ⟨g4,c4,rfl,_,_,hc4⟩:=R_own hr4 3 (by rw [H4'.out])
 have HB4:=Aside0.mk (HB3.out.trans (hb4.mono (by rw [HBE.out];exact HB3.out.size)))
 have HZ4:=hid (blk_below HZ3.out hb4)
 have HP4:=Aside0.mk (Kd.C_below HP3.out hb4)
 have HQ4:=Aside0.mk (show Kd.C k159 w4 (some ⟨g4,0,none⟩) 4 q by
  obtain ⟨A',c',he,_,hC⟩:=Kd.R_reads hr4
  rw [H4'.out] at he hC;cases he;exact hC)
 clear hr4 hb4 HZ3 HB3 HBw3 HQ HP3
 go_wp2_with (fail)
 refine (dirs_walk p q g3 c3 g4 c4 _ H4.out H4'.out hc3 hc4 HPI.out HQI.out HP4.out HQ4.out).mono ?_
 rintro e w5 ⟨v5,rfl,hr5,hb5⟩
 obtain ⟨g5,c5,rfl,_,_,hc5⟩:=R_own hr5 32 (dirs_len p q)
 have HB5:=Aside0.mk (HB4.out.trans (hb5.mono (by rw [HBE.out];exact HB4.out.size)))
 have HZ5:=hid (blk_below HZ4.out hb5)
 have HP5:=Aside0.mk (Kd.C_below HP4.out hb5)
 have HQ5:=Aside0.mk (Kd.C_below HQ4.out hb5)
 have HD5:=Aside0.mk (show Kd.C k159 w5 (some ⟨g5,0,none⟩) 33 (dirsF p q) by
  obtain ⟨A',c',he,_,hC⟩:=Kd.R_reads hr5
  rw [dirs_len] at he hC;cases he;exact hC)
 clear hr5 hb5 HZ4 HB4 HP4 HQ4
 obtain ⟨D,hD⟩:∃ D,D=dirsF p q:=⟨_,rfl⟩
 have HDI:=hid (dirs_in H4.out H4'.out HPI.out HQI.out)
 have HDL:=hid (dirs_len p q)
 rw [← hD] at HD5 HDI HDL HNO
 clear hD
 go_wp2_with (fail)
 have HBI0:Aside0 (Below w5.heap.size w5 w5):=⟨Below.refl _ _⟩
 have HN0:=hid (show NoSep p q D 0 from fun j hj=>by omega)
 obtain ⟨rb,hrb⟩:∃ rb,rb=w.heap.size:=⟨_,rfl⟩
 rw [← hrb] at HZ5 ⊢
 have hrbB:B=rb:=by rw [hrb];exact HBE.out
 have HRBB:=hid hrbB
 clear hrb hrbB
 go_loopg [29] 33 (fun kq v29 w'=>∃ i:Nat,v29=.int .i64 i∧i+kq=33∧Hid (NoSep p q D i)∧Aside0 (Below w5.heap.size w5 w'))
 case atStart=>exact ⟨0,rfl,rfl,HN0,HBI0⟩
 case round =>
  clear HN0 HBI0
  obtain ⟨i,rfl,hi,HN,HBI⟩:=hrel
  by_cases hlt:i<33
  ·have d1:decide ((i:Int)<33)=true:=decide_eq_true (by omega)
   have i0:(0:Int)≤(i:Int):=by omega
   have i1:(i:Int)<33:=by omega
   obtain ⟨ad,e0,hx0,hx1⟩:=at_T159 (Kd.C_below HD5.out HBI.out) (i:Int) i0 i1
   cases e0
   rw [Int.toNat_natCast] at hx0 hx1
   simp only [add_plain] at hx0 hx1
   have hdi:=HDI.out _ (show rd_T159 D (i:Int) ∈ D by rw [rdP (by rw [HDL.out];exact hlt)];exact List.getElem_mem _)
   have HNi:=hid (show plane_line.f 5 (rd_T159 D (i:Int)).f0 (rd_T159 D (i:Int)).f1 p q=some (false,0,0,0,0,0,0,false)→NoSep p q D (i+1) from fun h j hj=>by
    by_cases e:j=i
    ·rw [e];exact h
    ·exact HN.out j (by omega))
   obtain ⟨dv,hdv⟩:∃ dv,dv=rd_T159 D (i:Int):=⟨_,rfl⟩
   rw [← hdv] at hx0 hx1 hdi HNi
   obtain ⟨hi',lo,e1,e2,r⟩:=line_eq hdi.in_ p q H4.out H4'.out HPI.out HQI.out
   have HDV:=hid hdi
   have HE1:=hid e1
   have HE2:=hid e2
   have HLT:=hid hlt
   have HBWL:=hid (show w5.heap.size≤wr.heap.size from HBI.out.size)
   clear hdv hdi e1 e2 hlt
   rcases r with ⟨r1,r2⟩ | ⟨r1,r2⟩
   ·have HR1:=hid r1
    have HR2:=hid r2
    clear r1 r2
    have hLC:∀ W',Below w5.heap.size w5 W'→Calls Tryz.prog 84 #[.int .i64 dv.f0,.int .i64 dv.f1,.slice (some ⟨g3,0,none⟩) 4 c3,.slice (some ⟨g4,0,none⟩) 4 c4] W' fun e w''=>e=.returned (.tuple #[.agg #[.bool false,.int .i64 0,.int .i64 0,.int .i64 0,.int .i64 (2*dv.f0),.int .i64 (2*dv.f1),.int .i64 (hi' + lo)],.bool true])∧Below W'.heap.size W' w'':=fun W' hb=>by
     have h:=plane_line.calls 5 dv.f0 dv.f1 (some ⟨g3,0,none⟩) c3 p (some ⟨g4,0,none⟩) c4 q false 0 0 0 (2*dv.f0) (2*dv.f1) (hi' + lo) true W' (by rw [H4.out];exact Kd.C_below HP5.out hb) (by rw [H4.out];exact hc3) (by rw [H4'.out];exact Kd.C_below HQ5.out hb) (by rw [H4'.out];exact hc4) HR2.out
     rw [H4.out,H4'.out] at h;exact h
    have HLC:=hid hLC
    have HBA:=Aside0.mk (show Below w5.heap.size w5 (wr.alloc (.cells #[.int .i64 dv.f0,.int .i64 dv.f1] 42)) from HBI.out.alloc HBWL.out _)
    clear hLC
    go_wp2_with (fail)
    refine (HLC.out _ HBA.out).mono ?_
    rintro e w9 ⟨rfl,hb9⟩
    have HB9:=Aside0.mk (HBA.out.trans (hb9.mono HBA.out.size))
    clear hb9 HLC HBA
    obtain ⟨W9,hW9⟩:∃ W9,W9=w9.alloc (.cells #[.bool false,.int .i64 0,.int .i64 0,.int .i64 0,.int .i64 (2*dv.f0),.int .i64 (2*dv.f1),.int .i64 (hi' + lo)] 137):=⟨_,rfl⟩
    have hz:=blk_alloc (blk_below HZ5.out HB9.out) (.cells #[.bool false,.int .i64 0,.int .i64 0,.int .i64 0,.int .i64 (2*dv.f0),.int .i64 (2*dv.f1),.int .i64 (hi' + lo)] 137)
    have hy:=blk_new w9 (.cells #[.bool false,.int .i64 0,.int .i64 0,.int .i64 0,.int .i64 (2*dv.f0),.int .i64 (2*dv.f1),.int .i64 (hi' + lo)] 137)
    have HBW:=Aside0.mk (show Below B w W9 from HB5.out.trans ((show Below w5.heap.size w5 W9 by rw [hW9];exact HB9.out.alloc HB9.out.size _).mono (by rw [HBE.out];exact HB5.out.size)))
    have HSEP:=hid (line_sep HDV.out p q HPI.out HQI.out HE1.out HE2.out HR1.out)
    obtain ⟨yb,hyb⟩:∃ yb,yb=w9.heap.size:=⟨_,rfl⟩
    rw [← hyb] at hy
    rw [← hW9] at hz hy
    have HZ:=hid hz
    have HRB':=hid (show B≤rb by rw [HRBB.out];exact Nat.le_refl _)
    have hfz:∀ o,W9.frozen? ⟨rb,o,none⟩=false:=fun o=>blk_frozen hz o
    have z0:W9.cell? ⟨rb,0,none⟩=some (.bool false):=by rw [blk_cell hz];rfl
    have z1:W9.cell? ⟨rb,1,none⟩=some (.int .i64 0):=by rw [blk_cell hz];rfl
    have z2:W9.cell? ⟨rb,2,none⟩=some (.int .i64 0):=by rw [blk_cell hz];rfl
    have z3:W9.cell? ⟨rb,3,none⟩=some (.int .i64 0):=by rw [blk_cell hz];rfl
    have z4:W9.cell? ⟨rb,4,none⟩=some (.int .i64 0):=by rw [blk_cell hz];rfl
    have z5:W9.cell? ⟨rb,5,none⟩=some (.int .i64 0):=by rw [blk_cell hz];rfl
    have z6:W9.cell? ⟨rb,6,none⟩=some (.int .i64 0):=by rw [blk_cell hz];rfl
    have y0:W9.cell? ⟨yb,0,none⟩=some (.bool false):=by rw [blk_cell hy];rfl
    have y1:W9.cell? ⟨yb,1,none⟩=some (.int .i64 0):=by rw [blk_cell hy];rfl
    have y2:W9.cell? ⟨yb,2,none⟩=some (.int .i64 0):=by rw [blk_cell hy];rfl
    have y3:W9.cell? ⟨yb,3,none⟩=some (.int .i64 0):=by rw [blk_cell hy];rfl
    have y4:W9.cell? ⟨yb,4,none⟩=some (.int .i64 (2*dv.f0)):=by rw [blk_cell hy];rfl
    have y5:W9.cell? ⟨yb,5,none⟩=some (.int .i64 (2*dv.f1)):=by rw [blk_cell hy];rfl
    have y6:W9.cell? ⟨yb,6,none⟩=some (.int .i64 (hi' + lo)):=by rw [blk_cell hy];rfl
    clear hz hy hx0 hx1 HBI HB9
    go_upto_region 9 with (fail)
    rw [← hW9,← hyb]
    clear hW9 hyb
    go_wp2_with (fail)
    refine bodyPost_ret (results_ct rfl _ _ rb 137 #[.bool false,.int .i64 0,.int .i64 0,.int .i64 0,.int .i64 (2*dv.f0),.int .i64 (2*dv.f1),.int .i64 (hi' + lo)] (0,0) _ rfl (blk_set (blk_set (blk_set (blk_set (blk_set (blk_set (blk_set HZ.out 0 _) 1 _) 2 _) 3 _) 4 _) 5 _) 6 _) Tryz.underlying137 rfl (by kernel_rfl)) rfl ?_
    exact ⟨_,_,_,rfl,HSEP.out,((((((HBW.out.setCell HRB'.out _).setCell HRB'.out _).setCell HRB'.out _).setCell HRB'.out _).setCell HRB'.out _).setCell HRB'.out _).setCell HRB'.out _⟩
   ·have HR2:=hid r2
    clear r2
    have hLC:∀ W',Below w5.heap.size w5 W'→Calls Tryz.prog 84 #[.int .i64 dv.f0,.int .i64 dv.f1,.slice (some ⟨g3,0,none⟩) 4 c3,.slice (some ⟨g4,0,none⟩) 4 c4] W' fun e w''=>e=.returned (.tuple #[.agg #[.bool false,.int .i64 0,.int .i64 0,.int .i64 0,.int .i64 0,.int .i64 0,.int .i64 0],.bool false])∧Below W'.heap.size W' w'':=fun W' hb=>by
     have h:=plane_line.calls 5 dv.f0 dv.f1 (some ⟨g3,0,none⟩) c3 p (some ⟨g4,0,none⟩) c4 q false 0 0 0 0 0 0 false W' (by rw [H4.out];exact Kd.C_below HP5.out hb) (by rw [H4.out];exact hc3) (by rw [H4'.out];exact Kd.C_below HQ5.out hb) (by rw [H4'.out];exact hc4) HR2.out
     rw [H4.out,H4'.out] at h;exact h
    have HLC:=hid hLC
    have HBA:=Aside0.mk (show Below w5.heap.size w5 (wr.alloc (.cells #[.int .i64 dv.f0,.int .i64 dv.f1] 42)) from HBI.out.alloc HBWL.out _)
    clear hLC
    go_wp2_with (fail)
    refine (HLC.out _ HBA.out).mono ?_
    rintro e w9 ⟨rfl,hb9⟩
    have HB9:=Aside0.mk (HBA.out.trans (hb9.mono HBA.out.size))
    clear hb9 HLC HBA
    have HBZ:=Aside0.mk (show Below w5.heap.size w5 (w9.alloc (.cells #[.bool false,.int .i64 0,.int .i64 0,.int .i64 0,.int .i64 0,.int .i64 0,.int .i64 0] 137)) from HB9.out.alloc HB9.out.size _)
    have HN2:=hid (HNi.out HR2.out)
    clear hx0 hx1 HBI HB9
    go_wp2_with (fail)
    go_roundg (33-(i+1))
    case rel=>exact ⟨i+1,by go_num,by have:=HLT.out;omega,HN2,HBZ⟩
    case measure=>have:=HLT.out;omega
  ·have hi33:i=33:=by omega
   subst hi33
   exact (HNO.out HN.out).elim
end Go.Proofs.YtiioklboaookiaaGreatDoor.Q
namespace Go.Proofs.YtiioklboaookiaaGreatDoor.Q
open Go.RowKit Go.Proofs.YtiioklboaookiaaGreatDoorW.PrintWords Go.Proofs.YtiioklboaookiaaGreatDoorW.PrintLast Go.Proofs.YtiioklboaookiaaGreatDoor.Hand Go.Proofs.YtiioklboaookiaaGreatDoorW.PrintMore
attribute [local go_sem] max2_int min2_int max_two min_two max_three min_three max_four min_four
set_option linter.unusedVariables false
set_option linter.unusedSimpArgs false
theorem pwithin_yes {n lo hi:Int} (h1:lo≤n) (h2:n≤hi):plane_within.f n lo hi=some true:=by
 unfold plane_within.f
 rw [if_pos (show n ≥ lo by omega),decide_eq_true h2]
theorem within_call {n lo hi:Int} (h1:lo≤n) (h2:n≤hi) (w:World):Calls Tryz.prog 113 #[.int .i64 n,.int .i64 lo,.int .i64 hi] w fun e w'=>e=.returned (.bool true)∧Below w.heap.size w w' :=
 (plane_within.calls n lo hi true w (pwithin_yes h1 h2)).mono fun _ _ ⟨he,hw⟩=>⟨he,hw.below⟩
def aptCells (U V W:Int):Array Value:=#[.bool false,.int .i64 0,.int .i64 0,.int .i64 0,.int .i64 U,.int .i64 V,.int .i64 W]
theorem apt_cells {W' : World} {b:Nat} {U V W:Int} (h:W'.heap[b]?=some (.cells #[.bool false,.int .i64 0,.int .i64 0,.int .i64 0,.int .i64 U,.int .i64 V,.int .i64 W] 137 (0,0))) :
  W'.cell? ⟨b,0,none⟩=some (.bool false)∧W'.cell? ⟨b,1,none⟩=some (.int .i64 0)∧W'.cell? ⟨b,2,none⟩=some (.int .i64 0)∧W'.cell? ⟨b,3,none⟩=some (.int .i64 0)∧W'.cell? ⟨b,4,none⟩=some (.int .i64 U)∧W'.cell? ⟨b,5,none⟩=some (.int .i64 V)∧W'.cell? ⟨b,6,none⟩=some (.int .i64 W):=by
 refine ⟨?_,?_,?_,?_,?_,?_,?_⟩ <;> (rw [blk_cell h];rfl)
set_option maxHeartbeats 8000000 in
set_option maxRecDepth 100000 in
theorem right_walk (U V W:Int) (p q:List Pt) (hs:SepOk U V W p q) (gp cp gq cq:Nat) (w:World) (h4:p.length=4) (h4' : q.length=4) (hcp:4≤cp) (hcq:4≤cq) (hp:∀ x,x ∈ p→ptIn x) (hq:∀ x,x ∈ q→ptIn x) (hP:Kd.C k159 w (some ⟨gp,0,none⟩) 4 p) (hQ:Kd.C k159 w (some ⟨gq,0,none⟩) 4 q) :
  Calls Tryz.prog 86 #[.slice (some ⟨gp,0,none⟩) 4 cp,.slice (some ⟨gq,0,none⟩) 4 cq,.agg #[.bool false,.int .i64 0,.int .i64 0,.int .i64 0,.int .i64 U,.int .i64 V,.int .i64 W]] w fun e w'=>e=.returned (.bool true)∧Below w.heap.size w w':=by
 obtain ⟨hd,hw1,hw2,hlo,hhi⟩:=hs
 obtain ⟨lo1,m,e1,r1⟩:=extremes_eq hd p h4 hp
 obtain ⟨l,hi2,e2,r2⟩:=extremes_eq hd q h4' hq
 have hmW:m<W:=by obtain ⟨x,hx,e⟩:=r1.2.2;rw [e];exact hlo x hx
 have hWl:W<l:=by obtain ⟨x,hx,e⟩:=r2.2.1;rw [e];exact hhi x hx
 obtain ⟨d1,d2,d3,d4⟩:=hd
 have HE1:=hid (fun W' (hb:Below w.heap.size w W')=>by
  have h:=plane_extremes.calls 5 U V (some ⟨gp,0,none⟩) cp p lo1 m W' (by rw [h4];exact Kd.C_below hP hb) (by rw [h4];exact hcp) e1
  rw [h4] at h;exact h)
 have HE2:=hid (fun W' (hb:Below w.heap.size w W')=>by
  have h:=plane_extremes.calls 5 U V (some ⟨gq,0,none⟩) cq q l hi2 W' (by rw [h4'];exact Kd.C_below hQ hb) (by rw [h4'];exact hcq) e2
  rw [h4'] at h;exact h)
 have HW1:=hid (fun w' : World=>within_call (n:=U) (lo:=-1073741824) (hi:=1073741824) (by omega) (by omega) w')
 have HW2:=hid (fun w' : World=>within_call (n:=V) (lo:=-1073741824) (hi:=1073741824) (by omega) (by omega) w')
 have HW3:=hid (fun w' : World=>within_call (n:=W) (lo:=-1152921504606846976) (hi:=1152921504606846976) (by omega) (by omega) w')
 have HM:=hid hmW
 have HL:=hid hWl
 have HZ0:=hid (blk_new w (.cells (aptCells U V W) 137))
 have HB0:=Aside0.mk (show Below w.heap.size w (w.alloc (.cells (aptCells U V W) 137)) from (Below.refl _ _).alloc (Nat.le_refl _) _)
 obtain ⟨b5,hb5⟩:∃ b5,b5=w.heap.size:=⟨_,rfl⟩
 clear hw1 hw2 hlo hhi e1 e2 r1 r2 hmW hWl d1 d2 d3 d4 h4 h4' hp hq hP hQ
 go_enter Tryz.func86,Tryz.ntmps86
 go_upto_region 3 with (fail)
 unfold aptCells at HZ0 HB0
 generalize hW0:w.alloc (.cells #[.bool false,.int .i64 0,.int .i64 0,.int .i64 0,.int .i64 U,.int .i64 V,.int .i64 W] 137)=W0 at HZ0 HB0 ⊢
 rw [← hb5] at HZ0 ⊢
 clear hW0 hb5
 obtain ⟨g0,g1,g2,g3,g4,_,_⟩:=apt_cells HZ0.out
 go_wp2_with (fail)
 refine (HW1.out _).mono ?_
 rintro e w1 ⟨rfl,hb1⟩
 have HZ1:=hid (blk_below HZ0.out hb1)
 have HB1:=Aside0.mk (HB0.out.trans (hb1.mono HB0.out.size))
 clear hb1 HZ0 HB0 g0 g1 g2 g3 g4
 obtain ⟨_,_,_,_,_,g5,_⟩:=apt_cells HZ1.out
 go_wp2_with (fail)
 refine (HW2.out _).mono ?_
 rintro e w2 ⟨rfl,hb2⟩
 have HZ2:=hid (blk_below HZ1.out hb2)
 have HB2:=Aside0.mk (HB1.out.trans (hb2.mono HB1.out.size))
 clear hb2 HZ1 HB1 g5
 obtain ⟨_,_,_,_,_,_,g6⟩:=apt_cells HZ2.out
 go_wp2_with (fail)
 refine (HW3.out _).mono ?_
 rintro e w3 ⟨rfl,hb3⟩
 have HZ3:=hid (blk_below HZ2.out hb3)
 have HB3:=Aside0.mk (HB2.out.trans (hb3.mono HB2.out.size))
 clear hb3 HZ2 HB2 g6
 obtain ⟨_,_,_,_,g4,g5,_⟩:=apt_cells HZ3.out
 go_wp2_with (fail)
 refine (HE1.out _ HB3.out).mono ?_
 rintro e w4 ⟨rfl,hb4⟩
 have HZ4:=hid (blk_below HZ3.out hb4)
 have HB4:=Aside0.mk (HB3.out.trans (hb4.mono HB3.out.size))
 clear hb4 HZ3 HB3 g4 g5
 obtain ⟨_,_,_,_,g4,g5,_⟩:=apt_cells HZ4.out
 go_wp2_with (fail)
 refine (HE2.out _ HB4.out).mono ?_
 rintro e w5 ⟨rfl,hb5'⟩
 have HZ5:=hid (blk_below HZ4.out hb5')
 have HB5:=Aside0.mk (HB4.out.trans (hb5'.mono HB4.out.size))
 clear hb5' HZ4 HB4 g4 g5
 obtain ⟨_,_,_,_,_,_,g6⟩:=apt_cells HZ5.out
 have m1:=HM.out
 have m2:=HL.out
 go_wp2_with (fail)
 go_ret
 exact ⟨rfl,HB5.out⟩
set_option maxHeartbeats 8000000 in
set_option maxRecDepth 100000 in
theorem Check_walk (U V W:Int) (p q:List Pt) (hs:SepOk U V W p q) (gp cp gq cq:Nat) (w:World) (h4:p.length=4) (h4' : q.length=4) (hcp:4≤cp) (hcq:4≤cq) (hp:∀ x,x ∈ p→ptIn x) (hq:∀ x,x ∈ q→ptIn x) (hP:Kd.C k159 w (some ⟨gp,0,none⟩) 4 p) (hQ:Kd.C k159 w (some ⟨gq,0,none⟩) 4 q) :
  Calls Tryz.prog 48 #[.slice (some ⟨gp,0,none⟩) 4 cp,.slice (some ⟨gq,0,none⟩) 4 cq,.agg #[.bool false,.int .i64 0,.int .i64 0,.int .i64 0,.int .i64 U,.int .i64 V,.int .i64 W]] w fun e w'=>e=.returned (.int .i64 0)∧Below w.heap.size w w':=by
 have HS1:=hid (fun W' (hb:Below w.heap.size w W')=>isSet_rect h4 hp gp cp W' (Kd.C_below hP hb))
 have HS2:=hid (fun W' (hb:Below w.heap.size w W')=>isSet_rect h4' hq gq cq W' (Kd.C_below hQ hb))
 have HRI:=hid (fun W' (hb:Below w.heap.size w W')=>right_walk U V W p q hs gp cp gq cq W' h4 h4' hcp hcq hp hq (Kd.C_below hP hb) (Kd.C_below hQ hb))
 have HZ0:=hid (blk_new w (.cells #[.bool false,.int .i64 0,.int .i64 0,.int .i64 0,.int .i64 U,.int .i64 V,.int .i64 W] 137))
 have HB0:=Aside0.mk (show Below w.heap.size w (w.alloc (.cells #[.bool false,.int .i64 0,.int .i64 0,.int .i64 0,.int .i64 U,.int .i64 V,.int .i64 W] 137)) from (Below.refl _ _).alloc (Nat.le_refl _) _)
 obtain ⟨b5,hb5⟩:∃ b5,b5=w.heap.size:=⟨_,rfl⟩
 clear hs h4 h4' hp hq hP hQ
 go_enter Tryz.func48,Tryz.ntmps48
 go_upto_region 1 with (fail)
 generalize hW0:w.alloc (.cells #[.bool false,.int .i64 0,.int .i64 0,.int .i64 0,.int .i64 U,.int .i64 V,.int .i64 W] 137)=W0 at HZ0 HB0 ⊢
 rw [← hb5] at HZ0 ⊢
 clear hW0 hb5
 go_wp2_with (fail)
 refine (HS1.out _ HB0.out).mono ?_
 rintro e w1 ⟨rfl,hb1⟩
 have HZ1:=hid (blk_below HZ0.out hb1)
 have HB1:=Aside0.mk (HB0.out.trans (hb1.mono HB0.out.size))
 clear hb1 HZ0 HB0
 go_wp2_with (fail)
 refine (HS2.out _ HB1.out).mono ?_
 rintro e w2 ⟨rfl,hb2⟩
 have HZ2:=hid (blk_below HZ1.out hb2)
 have HB2:=Aside0.mk (HB1.out.trans (hb2.mono HB1.out.size))
 clear hb2 HZ1 HB1
 obtain ⟨g0,g1,g2,g3,g4,g5,g6⟩:=apt_cells HZ2.out
 go_wp2_with (fail)
 refine (HRI.out _ HB2.out).mono ?_
 rintro e w3 ⟨rfl,hb3⟩
 have HB3:=Aside0.mk (HB2.out.trans (hb3.mono HB2.out.size))
 clear hb3 HZ2 HB2 g0 g1 g2 g3 g4 g5 g6
 go_wp2_with (fail)
 go_ret
 exact ⟨rfl,HB3.out⟩
end Go.Proofs.YtiioklboaookiaaGreatDoor.Q
