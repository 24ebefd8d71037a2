/- A part of the proof: what the law's row needs. -/
import Derived.Deep.QuietTactic
import Derived.BigQuiet
import Derived.Shelf.SlSortCmp.KitK
import Derived.Test.YtiioklboaookiaaGreatDoorV6
namespace Go.Proofs.YtiioklboaookiaaGreatDoor.Q
open Go.RowKit Go.Proofs.YtiioklboaookiaaGreatDoorW.PrintWords Go.Proofs.YtiioklboaookiaaGreatDoorW.PrintLast Go.Proofs.YtiioklboaookiaaGreatDoor.Hand Go.Proofs.YtiioklboaookiaaGreatDoorW.PrintMore
attribute [local go_sem] max2_int min2_int max_two min_two max_three min_three max_four min_four
set_option linter.unusedVariables false
set_option linter.unusedSimpArgs false
theorem NetAt.far {nb mb xb B N n:Nat} {M:Nat→Nat→Int} {adj:Nat→List Nat} {vs:Nat→Value} {w w1:World} (h:NetAt nb mb xb B N n M adj vs w) (hb:∀ k,B≤k→k<w.heap.size→w1.heap[k]?=w.heap[k]?):NetAt nb mb xb B N n M adj vs w1 where
 net:=(hb _ h.bn h.lt.1).trans h.net
 room:=h.room.step (hb _ h.bm h.lt.2.1)
 row:=by obtain ⟨C,h1,h2⟩:=h.row;exact ⟨C,(hb _ h.bx h.lt.2.2).trans h1,h2⟩
 rows:=fun i hi=>Kd.R_mono (Kd.R_move (Kd.R_bound (h.rows i hi)) (fun k hk=>hb k hk.2.1 hk.2.2.1)) (fun _ _=>trivial)
 apart:=h.apart
 bn:=h.bn
 bm:=h.bm
 bx:=h.bx
structure PW (gb pb nb mb xb B N b:Nat) (A0:Option Addr) (n c0:Nat) (A1:Option Addr) (c1:Nat) (ps:List S34) (base:Nat) (work:Int) (cnt:Nat) (g:Gr) (w:World):Prop where
 tb:w.heap[gb]?=some (.cells #[.int .i64 b,.slice A0 n c0] 112 (0,0))
 pr:ProbAt pb b A0 n c0 (.pointer (some ⟨nb,0,none⟩)) A1 ps.length c1 work w
 pa:Kd.R k34 209 w base (fun k=>k<B) (.slice A1 ps.length c1) ps
 net:∃ vs,NetAt nb mb xb B N cnt g.1 g.2 vs w
theorem PW.keep {gb pb nb mb xb B N b:Nat} {A0:Option Addr} {n c0:Nat} {A1:Option Addr} {c1:Nat} {ps:List S34} {base:Nat} {work:Int} {cnt cnt' : Nat} {g g' : Gr} {w w1:World} (h:PW gb pb nb mb xb B N b A0 n c0 A1 c1 ps base work cnt g w) (hk:NetKeep B w w1)
  (hn:∃ vs,NetAt nb mb xb B N cnt' g'.1 g'.2 vs w1):PW gb pb nb mb xb B N b A0 n c0 A1 c1 ps base work cnt' g' w1 where
 tb:=hk.blk _ _ _ _ h.tb (by decide) (by decide)
 pr:=hk.blk _ _ _ _ h.pr (by decide) (by decide)
 pa:=Kd.R_move h.pa (fun k hk2=>hk.bel.block k hk2)
 net:=hn
theorem PW.below {gb pb nb mb xb B N b:Nat} {A0:Option Addr} {n c0:Nat} {A1:Option Addr} {c1:Nat} {ps:List S34} {base:Nat} {work:Int} {cnt:Nat} {g:Gr} {w w1:World} (h:PW gb pb nb mb xb B N b A0 n c0 A1 c1 ps base work cnt g w) (hb:Below w.heap.size w w1):PW gb pb nb mb xb B N b A0 n c0 A1 c1 ps base work cnt g w1 where
 tb:=(hb.block _ (lt_of_some h.tb)).trans h.tb
 pr:=(hb.block _ (lt_of_some h.pr)).trans h.pr
 pa:=Kd.R_below h.pa hb
 net:=by obtain ⟨vs,h⟩:=h.net;exact ⟨vs,h.below hb⟩
theorem PW.work {gb pb nb mb xb B N b:Nat} {A0:Option Addr} {n c0:Nat} {A1:Option Addr} {c1:Nat} {ps:List S34} {base:Nat} {work:Int} {cnt:Nat} {g:Gr} {w:World} (h:PW gb pb nb mb xb B N b A0 n c0 A1 c1 ps base work cnt g w) (hpB:pb<B) (x:Int):PW gb pb nb mb xb B N b A0 n c0 A1 c1 ps base x cnt g (w.setCell ⟨pb,4,none⟩ (.int .i64 x)) where
 tb:=(Below.heap_setCell w ⟨pb,4,none⟩ (.int .i64 x) gb (fun e=>by
  have h1:=h.tb
  have h2:w.heap[pb]?=_:=h.pr
  have e' : gb=pb:=e
  rw [e',h2] at h1
  injection h1 with h1
  injection h1 with _ h1
  exact absurd h1 (by decide))).trans h.tb
 pr:=blk_put h.pr 4 _ rfl
 pa:=Kd.R_set h.pa h.pr (by decide) 4 _
 net:=by
  obtain ⟨vs,h'⟩:=h.net
  exact ⟨vs,h'.far (fun k hk _=>Below.heap_setCell w ⟨pb,4,none⟩ (.int .i64 x) k (fun e=>by have e' : k=pb:=e;omega))⟩
set_option maxHeartbeats 8000000 in
set_option maxRecDepth 100000 in
theorem newp_walk (b:Nat) (A0:Option Addr) (c0:Nat) (l:List S76) (w:World) (hb:b≤8) (hl:l.length≤32) (hr:Kd.C k76 w A0 l.length l) (hv:∀ x,x ∈ l→jobOk x=true) :
  Calls Tryz.prog 68 #[.agg #[.int .i64 b,.slice A0 l.length c0]] w fun e w'=>∃ pb nb mb xb B n A1 c1 vs,e=.returned (.pointer (some ⟨pb,0,none⟩)) ∧
   ProbAt pb b A0 l.length c0 (.pointer (some ⟨nb,0,none⟩)) A1 (spansF l).length c1 (workF l) w'∧(∃ base,Kd.R k34 209 w' base (fun k=>k<B) (.slice A1 (spansF l).length c1) (spansF l))∧w.heap.size≤B∧n≤10000 ∧
   NetAt nb mb xb B (2+l.length+(spansF l).length) n (probG b l (spansF l)).1 (probG b l (spansF l)).2 vs w'∧pb<B∧Below w.heap.size w w':=by
 have HR:=Aside0.mk hr
 have HV:=hid hv
 clear hr hv
 go_enter Tryz.func68,Tryz.ntmps68
 go_wp2_with (fail)
 obtain ⟨gb,hgb⟩:∃ gb,gb=w.heap.size:=⟨_,rfl⟩
 obtain ⟨W1,hW1⟩:∃ W1,W1=w.alloc (.cells #[.int .i64 b,.slice A0 l.length c0] 112):=⟨_,rfl⟩
 have hB1:Below w.heap.size w W1:=by rw [hW1];exact below_alloc (Below.refl _ _) _
 have hTB:W1.heap[gb]?=some (.cells #[.int .i64 b,.slice A0 l.length c0] 112 (0,0)):=by rw [hW1,hgb];exact blk_new _ _
 rw [← hW1,← hgb]
 have HGB:=hid hgb
 have HB1:=Aside0.mk hB1
 have HTB:=hid hTB
 have HS:=hid (show W1.drew.cell? ⟨gb,0,none⟩=some (.int .i64 b)∧W1.drew.cell? ⟨gb,1,none⟩=some (.slice A0 l.length c0) from ⟨by show W1.cell? _=_;simp [World.cell?,hTB],by show W1.cell? _=_;simp [World.cell?,hTB]⟩)
 clear hgb hW1 hB1 hTB
 refine start_ (n:=6) (S:=fun w'=>w'.cell? ⟨gb,0,none⟩=some (.int .i64 b)∧w'.cell? ⟨gb,1,none⟩=some (.slice A0 l.length c0)) (ds:=[]) #[false,false,false,false,false,false] (by kernel_rfl) rfl rfl HS.out (fun hHeld=>?_)
 refine take_ (i:=0) (N:=some 10) (v:=?_) (a':=?_) #[true,false,false,false,false,false] rfl rfl (by kernel_rfl) (fun _ _ _ h=>h) (Or.inl ⟨by rfl,?_⟩) hHeld ?_ ?_
 rotate_left
 ·rintro w' ⟨s0,s1⟩
  go_simp
  with_reducible rfl
 rotate_left
 ·simp only [Act.put,sp__,i64_w,i32_w]
  rfl
 refine take_ (i:=1) (N:=some 11) (v:=?_) (a':=?_) #[true,true,false,false,false,false] rfl rfl (by kernel_rfl) (fun _ _ _ h=>h) (Or.inl ⟨by rfl,?_⟩) hHeld ?_ ?_
 rotate_left
 ·rintro w' ⟨s0,s1⟩
  go_simp
  with_reducible rfl
 rotate_left
 ·simp only [Act.put,sp__,i64_w,i32_w]
  rfl
 refine one_ (i:=2) (N:=some 12) #[true,true,true,false,false,false] rfl rfl (by kernel_rfl) (by decide) (fun K hK=>?_)
 refine goes_ Tryz.func99 (by kernel_rfl) rfl #[.agg #[.int .i64 b,.slice A0 l.length c0]] (by rfl) rfl rfl (by (try simp only [List.map_toArray,List.map_cons,List.map_nil]);first|done|rfl) ?_
 refine (spans_walk b A0 c0 l _ hl (Kd.C_below HR.out HB1.out.drew)).mono ?_
 rintro e w2 ⟨v2,rfl,hr2,hb2⟩
 obtain ⟨A1,c1,e2⟩:=Kd.R_slice hr2
 subst e2
 have HRS:=Aside0.mk hr2
 have HB2:=Aside0.mk (HB1.out.drew.trans (hb2.mono HB1.out.drew.size))
 have HTB2:=hid (show w2.heap[gb]?=some (.cells #[.int .i64 b,.slice A0 l.length c0] 112 (0,0)) from (hb2.block gb (show gb<W1.drew.heap.size from lt_of_some HTB.out)).trans HTB.out)
 have g0:=pw_cell_below hb2 HS.out.1
 have g1:=pw_cell_below hb2 HS.out.2
 clear hr2 hb2
 refine ⟨_,rfl,?_⟩
 refine hK.out _ _ ⟨g0,g1⟩ (fun hHeld=>?_)
 clear hK K
 refine norm_ (a':=?_) ?_ ?_
 rotate_left
 ·show Act.put _ (some 12) _=_
  simp only [Act.put,sp__,i64_w,i32_w]
  rfl
 refine pure_ (i:=3) (N:=some 13) (v:=?_) (a':=?_) #[true,true,true,true,false,false] rfl rfl (by kernel_rfl) (fun _ _ _ h=>h) (Or.inl ⟨by rfl,?_⟩) ?_ ?_
 rotate_left
 ·intro w'
  go_simp
  with_reducible rfl
 rotate_left
 ·simp only [Act.put,sp__,i64_w,i32_w]
  rfl
 refine one_ (i:=4) (N:=some 14) #[true,true,true,true,true,false] rfl rfl (by kernel_rfl) (by decide) (fun K hK=>?_)
 refine value_ (w1:=?_) (v:=?_) (by rfl) rfl ?_ ?_
 rotate_left 2
 ·go_simp
  first|(refine ⟨?_,?_⟩ <;> rfl)|rfl
 refine hK.out _ _ ⟨by rw [World.cell?_alloc_old _ _ _ (Nat.ne_of_lt (lt_of_some HTB2.out))];exact g0,by rw [World.cell?_alloc_old _ _ _ (Nat.ne_of_lt (lt_of_some HTB2.out))];exact g1⟩ (fun hHeld=>?_)
 clear hK K
 refine norm_ (a':=?_) ?_ ?_
 rotate_left
 ·show Act.put _ (some 14) _=_
  simp only [Act.put,sp__,i64_w,i32_w]
  rfl
 refine pure_ (i:=5) (N:=some 3) (v:=?_) (a':=?_) #[true,true,true,true,true,true] rfl rfl (by kernel_rfl) (fun _ _ _ h=>h) (Or.inl ⟨by rfl,?_⟩) ?_ ?_
 rotate_left
 ·intro w'
  go_simp
  with_reducible rfl
 rotate_left
 ·simp only [Act.put,sp__,i64_w,i32_w]
  rfl
 refine done_ (by kernel_rfl) ?_
 clear g0 g1
 obtain ⟨ps,hps⟩:∃ ps,ps=spansF l:=⟨_,rfl⟩
 obtain ⟨pb,hpb⟩:∃ pb,pb=w2.heap.size:=⟨_,rfl⟩
 have HPS:=hid hps
 have hm:ps.length≤64:=by
  rw [hps];unfold spansF pairsF timesF Lib.compact Lib.compactUpTo
  rw [List.length_map,List.length_range,List.length_map]
  refine Nat.le_trans (Nat.sub_le _ _) (Nat.le_trans (List.length_filter_le _ _) ?_)
  rw [List.length_range,List.length_mergeSort,timesR_length];omega
 rw [← hps] at HRS ⊢
 obtain ⟨W3,hW3⟩:∃ W3,W3=w2.alloc (.cells #[.int .i64 b,.slice A0 l.length c0,.pointer none,.slice A1 ps.length c1,.int .i64 0] 167):=⟨_,rfl⟩
 have HP3:=hid (show ProbAt pb b A0 l.length c0 (.pointer none) A1 ps.length c1 0 W3 by rw [hW3,hpb];exact blk_new _ _)
 have hb3:Below w2.heap.size w2 W3:=by rw [hW3];exact below_alloc (Below.refl _ _) _
 have HB3:=Aside0.mk (HB2.out.trans (hb3.mono HB2.out.size))
 have HTB3:=hid (show W3.heap[gb]?=some (.cells #[.int .i64 b,.slice A0 l.length c0] 112 (0,0)) from (hb3.block gb (lt_of_some HTB2.out)).trans HTB2.out)
 have HPA3:=Aside0.mk (Kd.R_below HRS.out hb3)
 have hgp:gb<pb:=by rw [hpb];exact lt_of_some HTB2.out
 rw [← hW3,← hpb]
 clear hW3 hpb hps hb3 HRS HTB2 HB2 HTB HB1 HS
 go_wp2_with (fail)
 refine (last_walk pb b A0 l.length c0 _ A1 ps.length c1 0 W3 HP3.out (by omega) (by omega)).mono ?_
 rintro e w4 ⟨rfl,q4,rfl⟩
 go_wp2_with (fail)
 obtain ⟨N,hN⟩:∃ N,N=2+l.length+ps.length:=⟨_,rfl⟩
 have hNi:(1:Int)+(l.length:Int)+(ps.length:Int)+1=(N:Int):=by omega
 have hNb:N≤1000:=by omega
 have HNN:=hid hN
 rw [hNi]
 clear hN
 refine (newNetwork_walk N _ hNb).mono ?_
 rintro e w5 ⟨nb,mb,xb,rfl,hNet,hb5⟩
 obtain ⟨B,hBe⟩:∃ B,B=(W3.drewN q4).heap.size:=⟨_,rfl⟩
 rw [← hBe] at hNet hb5
 have hpB:pb<B:=by rw [hBe];exact lt_of_some HP3.out
 have HP5:=hid (show ProbAt pb b A0 l.length c0 (.pointer none) A1 ps.length c1 0 w5 from (hb5.block pb hpB).trans HP3.out)
 obtain ⟨q0,q1,q2,q3,q4_,f0⟩:=HP5.out.cells
 have HTB5:=hid (show w5.heap[gb]?=some (.cells #[.int .i64 b,.slice A0 l.length c0] 112 (0,0)) from (hb5.block gb (Nat.lt_trans hgp hpB)).trans HTB3.out)
 have k1:w5.cell? ⟨gb,1,none⟩=some (.slice A0 l.length c0):=by simp [World.cell?,HTB5.out]
 have hne:gb≠pb:=Nat.ne_of_lt hgp
 have HBE:=hid hBe
 have HNET:=hid hNet
 have HB5:=Aside0.mk hb5
 have HPA5:=Aside0.mk (show Kd.R k34 209 w5 W1.drew.heap.size (fun k=>k<B) (.slice A1 ps.length c1) ps from Kd.R_move (Kd.R_mono (Kd.R_bound HPA3.out) (fun k hk=>by rw [hBe];exact hk.2.2.1)) (fun k hk=>hb5.block k hk))
 have HB6:=Aside0.mk (HB3.out.trans (show Below w.heap.size W3 w5 from by have h:=HB3.out.size;exact (pw_below_drewN (Below.refl _ _) q4).trans (hb5.mono (by rw [hBe];exact h))))
 clear hBe hNet hb5
 go_wp2_with (fail)
 obtain ⟨base,hbase⟩:∃ base,base=W1.drew.heap.size:=⟨_,rfl⟩
 rw [← hbase] at HPA5
 clear hbase
 obtain ⟨g0,hg0⟩:∃ g0:Gr,g0=(fun _ _=>0,fun _=>[]):=⟨_,rfl⟩
 have HPW0:Aside0 (PW gb pb nb mb xb B N b A0 l.length c0 A1 c1 ps base 0 0 g0 (w5.setCell ⟨pb,2,none⟩ (.pointer (some ⟨nb,0,none⟩)))):=by
  have hpb5:w5.heap[pb]?=some (.cells (probCells b A0 l.length c0 (.pointer none) A1 ps.length c1 0) 167 (0,0)):=HP5.out
  refine ⟨⟨(Below.heap_setCell w5 ⟨pb,2,none⟩ (.pointer (some ⟨nb,0,none⟩)) gb hne).trans HTB5.out,blk_put hpb5 2 (.pointer (some ⟨nb,0,none⟩)) rfl,Kd.R_set HPA5.out hpb5 (by decide) 2 (.pointer (some ⟨nb,0,none⟩)),⟨fun _=>.slice none 0 0,?_⟩⟩⟩
  rw [hg0]
  exact HNET.out.far (fun k hk _=>Below.heap_setCell w5 ⟨pb,2,none⟩ (.pointer (some ⟨nb,0,none⟩)) k (fun e=>by have e' : k=pb:=e;omega))
 have HBW0:Aside0 (Below w.heap.size w (w5.setCell ⟨pb,2,none⟩ (.pointer (some ⟨nb,0,none⟩)))):=⟨Below.setCell (p:=⟨pb,2,none⟩) HB6.out (by rw [← HGB.out];exact Nat.le_of_lt hgp) _⟩
 have HG0:Aside0 (GrOk N (2*0) g0):=⟨by rw [hg0];exact GrOk.none N⟩
 obtain ⟨G1,hG1⟩:∃ G1,G1=gJobs l.length ps l 0 g0:=⟨_,rfl⟩
 have HJ0:Aside0 (gJobs l.length ps (l.drop 0) 0 g0=G1):=⟨hG1.symm⟩
 have HW0:Aside0 (0+workF (l.drop 0)=workF l):=⟨by simp⟩
 have HG1:=hid hG1
 have HG0E:=hid hg0
 clear hG1 hg0 q0 q1 q2 q3 q4_ f0 HP5 HTB5 HPA5 HB6 HNET HB5 HP3 HTB3 HPA3 HB3 k1
 go_loopg [25] l.length (fun kq v25 w'=>∃ (k cnt:Nat) (g:Gr) (work:Int),v25=.int .i64 k∧k+kq=l.length∧cnt≤100*k∧0≤work∧work≤1000*k∧Aside0 (GrOk N (2*cnt) g)∧Aside0 (gJobs l.length ps (l.drop k) k g=G1)∧Aside0 (work+workF (l.drop k)=workF l)∧Aside0 (PW gb pb nb mb xb B N b A0 l.length c0 A1 c1 ps base work cnt g w')∧Aside0 (Below w.heap.size w w'))
 case atStart=>exact ⟨0,0,g0,0,rfl,by omega,by omega,by omega,by omega,HG0,HJ0,HW0,HPW0,HBW0⟩
 case round =>
  clear HG0 HJ0 HW0 HPW0 HBW0
  obtain ⟨k,cnt,g,work,rfl,hk,hcnt,hw0,hw1,HG,HJ,HW,HPW,HBL⟩:=hrel
  by_cases hlt:k<l.length
  ·have d2:decide ((k:Int)<(l.length:Int))=true:=decide_eq_true (by omega)
   obtain ⟨ad,e0,hx0,hx1,hx2⟩:=at_T76 HR.out (k:Int) (by omega) (by omega)
   rw [Int.toNat_natCast] at hx0 hx1 hx2
   replace hx0:=(HBL.out.cell (World.block_lt_of_cell? w _ hx0)).trans hx0
   replace hx1:=(HBL.out.cell (World.block_lt_of_cell? w _ hx1)).trans hx1
   replace hx2:=(HBL.out.cell (World.block_lt_of_cell? w _ hx2)).trans hx2
   cases e0
   have hlt' : (k:Int)<(l.length:Int):=by omega
   have k0:(0:Int)≤(k:Int):=by omega
   have hjv:=HV.out _ (rd_mem k hlt)
   have hdrop:l.drop k=rd_T76 l (k:Int)::l.drop (k+1):=by
    rw [List.drop_eq_getElem_cons hlt]
    unfold rd_T76;rw [Int.toNat_natCast,List.getD_eq_getElem?_getD,List.getElem?_eq_getElem hlt];rfl
   have HLT:=hid hlt
   obtain ⟨bl,hbl⟩:∃ bl,bl=rd_T76 l (k:Int):=⟨_,rfl⟩
   rw [← hbl] at hx0 hx1 hx2 hjv hdrop
   clear hbl hlt
   obtain ⟨j0,j1,j2,j3,j4⟩:=of_decide_eq_true hjv
   clear hjv
   have HD:=hid hdrop
   clear hdrop
   go_wp2_with (fail)
   obtain ⟨jb,hjb⟩:∃ jb,jb=wr.heap.size:=⟨_,rfl⟩
   obtain ⟨W6,hW6⟩:∃ W6,W6=wr.alloc (.cells #[.int .i64 bl.f0,.int .i64 bl.f1,.int .i64 bl.f2] 46):=⟨_,rfl⟩
   have hb6:Below wr.heap.size wr W6:=by rw [hW6];exact below_alloc (Below.refl _ _) _
   have HJB:=hid (show W6.heap[jb]?=some (.cells #[.int .i64 bl.f0,.int .i64 bl.f1,.int .i64 bl.f2] 46 (0,0)) by rw [hW6,hjb];exact blk_new _ _)
   rw [← hW6,← hjb]
   clear hW6 hjb hx0 hx1 hx2
   have HPW6:=Aside0.mk (HPW.out.below hb6)
   have HBL6:=Aside0.mk (HBL.out.trans (hb6.mono HBL.out.size))
   clear hb6 HPW HBL
   obtain ⟨vs6,hn6⟩:=HPW6.out.net
   have HN6:=hid (hn6.below (below_drew1 (Below.refl _ _)))
   have HBB:=hid (show w.heap.size≤B by rw [← HGB.out];omega)
   have HS6:=hid (show W6.drew.cell? ⟨pb,2,none⟩=some (.pointer (some ⟨nb,0,none⟩))∧W6.drew.cell? ⟨jb,2,none⟩=some (.int .i64 bl.f2) from ⟨(HPW6.out.pr.cells).2.2.1,by show W6.cell? _=_;simp [World.cell?,HJB.out]⟩)
   clear hn6
   refine start_ (n:=10) (S:=fun w'=>w'.cell? ⟨pb,2,none⟩=some (.pointer (some ⟨nb,0,none⟩))∧w'.cell? ⟨jb,2,none⟩=some (.int .i64 bl.f2)) (ds:=[]) #[false,false,false,false,false,false,false,false,false,false] (by kernel_rfl) rfl rfl HS6.out (fun hHeld=>?_)
   refine pure_ (i:=0) (N:=some 30) (v:=?_) (a':=?_) #[true,false,false,false,false,false,false,false,false,false] rfl rfl (by kernel_rfl) (fun _ _ _ h=>h) (Or.inl ⟨by rfl,?_⟩) ?_ ?_
   rotate_left
   ·intro w'
    go_simp
    with_reducible rfl
   rotate_left
   ·simp only [Act.put,sp__,i64_w,i32_w]
    rfl
   refine pure_ (i:=1) (N:=some 31) (v:=?_) (a':=?_) #[true,true,false,false,false,false,false,false,false,false] rfl rfl (by kernel_rfl) (fun _ _ _ h=>h) (Or.inl ⟨by rfl,?_⟩) ?_ ?_
   rotate_left
   ·intro w'
    go_simp
    with_reducible rfl
   rotate_left
   ·simp only [Act.put,sp__,i64_w,i32_w]
    rfl
   refine pure_ (i:=2) (N:=some 32) (v:=?_) (a':=?_) #[true,true,true,false,false,false,false,false,false,false] rfl rfl (by kernel_rfl) (fun _ _ _ h=>h) (Or.inl ⟨by rfl,?_⟩) ?_ ?_
   rotate_left
   ·intro w'
    go_simp
    with_reducible rfl
   rotate_left
   ·simp only [Act.put,sp__,i64_w,i32_w]
    rfl
   refine take_ (i:=3) (N:=some 33) (v:=?_) (a':=?_) #[true,true,true,true,false,false,false,false,false,false] rfl rfl (by kernel_rfl) (fun _ _ _ h=>h) (Or.inl ⟨by rfl,?_⟩) hHeld ?_ ?_
   rotate_left
   ·rintro w' ⟨s0,s1⟩
    go_simp
    with_reducible rfl
   rotate_left
   ·simp only [Act.put,sp__,i64_w,i32_w]
    rfl
   refine pure_ (i:=4) (N:=some 34) (v:=?_) (a':=?_) #[true,true,true,true,true,false,false,false,false,false] rfl rfl (by kernel_rfl) (fun _ _ _ h=>h) (Or.inl ⟨by rfl,?_⟩) ?_ ?_
   rotate_left
   ·intro w'
    go_simp
    with_reducible rfl
   rotate_left
   ·simp only [Act.put,sp__,i64_w,i32_w]
    rfl
   refine pure_ (i:=5) (N:=some 35) (v:=?_) (a':=?_) #[true,true,true,true,true,true,false,false,false,false] rfl rfl (by kernel_rfl) (fun _ _ _ h=>h) (Or.inl ⟨by rfl,?_⟩) ?_ ?_
   rotate_left
   ·intro w'
    go_simp
    with_reducible rfl
   rotate_left
   ·simp only [Act.put,sp__,i64_w,i32_w]
    rfl
   refine pure_ (i:=7) (N:=some 37) (v:=?_) (a':=?_) #[true,true,true,true,true,true,false,true,false,false] rfl rfl (by kernel_rfl) (fun _ _ _ h=>h) (Or.inl ⟨by rfl,?_⟩) ?_ ?_
   rotate_left
   ·intro w'
    go_simp
    with_reducible rfl
   rotate_left
   ·simp only [Act.put,sp__,i64_w,i32_w]
    rfl
   refine take_ (i:=8) (N:=some 38) (v:=?_) (a':=?_) #[true,true,true,true,true,true,false,true,true,false] rfl rfl (by kernel_rfl) (fun _ _ _ h=>h) (Or.inl ⟨by rfl,?_⟩) hHeld ?_ ?_
   rotate_left
   ·rintro w' ⟨s0,s1⟩
    go_simp
    with_reducible rfl
   rotate_left
   ·simp only [Act.put,sp__,i64_w,i32_w]
    rfl
   refine one_ (i:=6) (N:=some 36) #[true,true,true,true,true,true,true,true,true,false] rfl rfl (by kernel_rfl) (by decide) (fun K hK=>?_)
   refine goes_ Tryz.func102 (by kernel_rfl) rfl #[.pointer (some ⟨pb,0,none⟩),.int .i64 k] (by rfl) rfl rfl (by (try simp only [List.map_toArray,List.map_cons,List.map_nil]);first|done|rfl) ?_
   refine (job_walk pb k _ (by omega)).mono ?_
   rintro e w7 ⟨rfl,rfl⟩
   refine ⟨_,rfl,?_⟩
   refine hK.out _ _ HS6.out (fun hHeld=>?_)
   clear hK K
   refine norm_ (a':=?_) ?_ ?_
   rotate_left
   ·show Act.put _ (some 36) _=_
    simp only [Act.put,sp__,i64_w,i32_w]
    rfl
   refine one_ (i:=9) (N:=some 39) #[true,true,true,true,true,true,true,true,true,true] rfl rfl (by kernel_rfl) (by decide) (fun K hK=>?_)
   refine goes_ Tryz.func101 (by kernel_rfl) rfl #[.pointer (some ⟨nb,0,none⟩),.int .i64 0,.int .i64 ((1+k:Nat):Int),.int .i64 bl.f2] (by rfl) rfl rfl (by (try simp only [List.map_toArray,List.map_cons,List.map_nil]);first|done|rfl) ?_
   refine (add_walk nb mb xb B N cnt g.1 g.2 vs6 W6.drew 0 (1+k) bl.f2 HN6.out hNb (by omega) (by omega) (by have:=HNN.out;omega) (wfN (by omega) (by omega)) (fun i=>Nat.lt_of_le_of_lt (HG.out.len i) (by omega))).mono ?_
   rintro e w7 ⟨rfl,hn7,hk7⟩
   have HPW7:=Aside0.mk (PW.keep (g':=addG g 0 (1+k) bl.f2) (HPW6.out.below (below_drew1 (Below.refl _ _))) hk7 hn7)
   have HBL7:=Aside0.mk ((HBL6.out.drew).trans (hk7.bel.mono HBB.out))
   have HJB7:=hid (hk7.blk jb _ _ _ HJB.out (by decide) (by decide))
   have g0_:=(HPW7.out.pr.cells).2.2.1
   have g1_:w7.cell? ⟨jb,2,none⟩=some (.int .i64 bl.f2):=by simp [World.cell?,HJB7.out]
   clear hn7 hk7
   refine ⟨_,rfl,?_⟩
   refine hK.out _ _ ⟨g0_,g1_⟩ (fun hHeld=>?_)
   clear hK K
   refine norm_ (a':=?_) ?_ ?_
   rotate_left
   ·show Act.put _ (some 39) _=_
    simp only [Act.put,sp__,i64_w,i32_w]
    rfl
   refine done_ (by kernel_rfl) ?_
   clear HPW6 HBL6 HJB HN6 HS6 g0_ g1_
   have HS7:=hid (show w7.drew.cell? ⟨pb,4,none⟩=some (.int .i64 work)∧w7.drew.cell? ⟨jb,2,none⟩=some (.int .i64 bl.f2) from ⟨(HPW7.out.pr.cells).2.2.2.2.1,by show w7.cell? _=_;simp [World.cell?,HJB7.out]⟩)
   have hwr:IntKind.i64.wrap (work+bl.f2)=work+bl.f2:=IntWalk.i64_in _ (by omega)
   have f0:∀ j,w7.drew.frozen? ⟨pb,j,none⟩=false:=HPW7.out.pr.cells.2.2.2.2.2
   go_wp2_with (fail)
   refine start_ (n:=10) (S:=fun w'=>w'.cell? ⟨pb,4,none⟩=some (.int .i64 work)∧w'.cell? ⟨jb,2,none⟩=some (.int .i64 bl.f2)) (ds:=[9]) #[false,false,false,false,false,false,false,false,false,false] (by kernel_rfl) rfl rfl HS7.out (fun hHeld=>?_)
   refine pure_ (i:=0) (N:=some 40) (v:=?_) (a':=?_) #[true,false,false,false,false,false,false,false,false,false] rfl rfl (by kernel_rfl) (fun _ _ _ h=>h) (Or.inl ⟨by rfl,?_⟩) ?_ ?_
   rotate_left
   ·intro w'
    go_simp
    with_reducible rfl
   rotate_left
   ·simp only [Act.put,sp__,i64_w,i32_w]
    rfl
   refine pure_ (i:=1) (N:=some 41) (v:=?_) (a':=?_) #[true,true,false,false,false,false,false,false,false,false] rfl rfl (by kernel_rfl) (fun _ _ _ h=>h) (Or.inl ⟨by rfl,?_⟩) ?_ ?_
   rotate_left
   ·intro w'
    go_simp
    with_reducible rfl
   rotate_left
   ·simp only [Act.put,sp__,i64_w,i32_w]
    rfl
   refine pure_ (i:=2) (N:=some 42) (v:=?_) (a':=?_) #[true,true,true,false,false,false,false,false,false,false] rfl rfl (by kernel_rfl) (fun _ _ _ h=>h) (Or.inl ⟨by rfl,?_⟩) ?_ ?_
   rotate_left
   ·intro w'
    go_simp
    with_reducible rfl
   rotate_left
   ·simp only [Act.put,sp__,i64_w,i32_w]
    rfl
   refine pure_ (i:=4) (N:=some 44) (v:=?_) (a':=?_) #[true,true,true,false,true,false,false,false,false,false] rfl rfl (by kernel_rfl) (fun _ _ _ h=>h) (Or.inl ⟨by rfl,?_⟩) ?_ ?_
   rotate_left
   ·intro w'
    go_simp
    with_reducible rfl
   rotate_left
   ·simp only [Act.put,sp__,i64_w,i32_w]
    rfl
   refine take_ (i:=3) (N:=some 43) (v:=?_) (a':=?_) #[true,true,true,true,true,false,false,false,false,false] rfl rfl (by kernel_rfl) (fun _ _ _ h=>h) (Or.inl ⟨by rfl,?_⟩) hHeld ?_ ?_
   rotate_left
   ·rintro w' ⟨s0,s1⟩
    go_simp
    with_reducible rfl
   rotate_left
   ·simp only [Act.put,sp__,i64_w,i32_w]
    rfl
   refine take_ (i:=5) (N:=some 45) (v:=?_) (a':=?_) #[true,true,true,true,true,true,false,false,false,false] rfl rfl (by kernel_rfl) (fun _ _ _ h=>h) (Or.inl ⟨by rfl,?_⟩) hHeld ?_ ?_
   rotate_left
   ·rintro w' ⟨s0,s1⟩
    go_simp
    with_reducible rfl
   rotate_left
   ·simp only [Act.put,sp__,i64_w,i32_w]
    rfl
   refine pure_ (i:=6) (N:=some 46) (v:=?_) (a':=?_) #[true,true,true,true,true,true,true,false,false,false] rfl rfl (by kernel_rfl) (fun _ _ _ h=>h) (Or.inl ⟨by rfl,?_⟩) ?_ ?_
   rotate_left
   ·intro w'
    go_simp
    with_reducible rfl
   rotate_left
   ·simp only [Act.put,sp__,i64_w,i32_w]
    rfl
   refine pure_ (i:=7) (N:=some 47) (v:=?_) (a':=?_) #[true,true,true,true,true,true,true,true,false,false] rfl rfl (by kernel_rfl) (fun _ _ _ h=>h) (Or.inl ⟨by rfl,?_⟩) ?_ ?_
   rotate_left
   ·intro w'
    go_simp
    with_reducible rfl
   rotate_left
   ·simp only [Act.put,sp__,i64_w,i32_w]
    rfl
   refine pure_ (i:=8) (N:=some 48) (v:=?_) (a':=?_) #[true,true,true,true,true,true,true,true,true,false] rfl rfl (by kernel_rfl) (fun _ _ _ h=>h) (Or.inl ⟨by rfl,?_⟩) ?_ ?_
   rotate_left
   ·intro w'
    go_simp
    with_reducible rfl
   rotate_left
   ·simp only [Act.put,sp__,i64_w,i32_w]
    rfl
   refine last_ (i:=9) (N:=none) #[true,true,true,true,true,true,true,true,true,true] rfl rfl (by kernel_rfl) (by decide) (fun K hK=>?_)
   refine skip_ (w1:=?_) (by rfl) rfl ?_ ?_
   rotate_left
   ·go_simp
    rfl
   refine hK.out _ _ ?_
   clear hK K
   refine done_ (by kernel_rfl) ?_
   clear f0
   obtain ⟨W8,hW8⟩:∃ W8,W8=(w7.setCell ⟨pb,4,none⟩ (.int .i64 (work+bl.f2))).drew:=⟨_,rfl⟩
   have HPW8:=Aside0.mk (show PW gb pb nb mb xb B N b (some ad) l.length c0 A1 c1 ps base (work+bl.f2) (cnt+1) (addG g 0 (1+k) bl.f2) W8 by rw [hW8];exact (HPW7.out.work hpB _).below (below_drew1 (Below.refl _ _)))
   have HBL8:=Aside0.mk (show Below w.heap.size w W8 by rw [hW8];exact (Below.setCell (p:=⟨pb,4,none⟩) HBL7.out (by rw [← HGB.out];exact Nat.le_of_lt hgp) _).drew)
   have hjp:jb≠pb:=fun e=>by
    have h1:=HJB7.out
    have h2:w7.heap[pb]?=_:=HPW7.out.pr
    rw [e,h2] at h1
    injection h1 with h1
    injection h1 with _ h1
    exact absurd h1 (by decide)
   have HJB8:=hid (show W8.heap[jb]?=some (.cells #[.int .i64 bl.f0,.int .i64 bl.f1,.int .i64 bl.f2] 46 (0,0)) by rw [hW8];exact (Below.heap_setCell w7 ⟨pb,4,none⟩ (.int .i64 (work+bl.f2)) jb hjp).trans HJB7.out)
   rw [← hW8]
   clear hW8 HPW7 HBL7 HJB7 HS7 hjp
   have q3:W8.cell? ⟨pb,3,none⟩=some (.slice A1 ps.length c1):=HPW8.out.pr.cells.2.2.2.1
   go_wp2_with (fail)
   clear q3
   have HG8:Aside0 (GrOk N (2*(cnt+1)) (addG g 0 (1+k) bl.f2)):=⟨(HG.out.add (by have:=HNN.out;omega) (by have:=HNN.out;omega) _).mono (by omega)⟩
   obtain ⟨G2,hG2⟩:∃ G2,G2=gSpans l.length k bl ps 0 (addG g 0 (1+k) bl.f2):=⟨_,rfl⟩
   have HJ8:Aside0 (gSpans l.length k bl (ps.drop 0) 0 (addG g 0 (1+k) bl.f2)=G2):=⟨hG2.symm⟩
   have HG2E:=hid hG2
   clear hG2
   have hpsv:∀ s,s ∈ ps→0≤s.f0∧s.f0<s.f1∧s.f1≤1000:=fun s hs=>spansF_ok l HV.out s (by rw [← HPS.out];exact hs)
   have HPV:=hid hpsv
   clear hpsv
   go_loopg [54] ps.length (fun kq v54 w'=>∃ (i cnt2:Nat) (g2:Gr),v54=.int .i64 i∧i+kq=ps.length∧cnt2≤100*k+1+i∧Aside0 (GrOk N (2*cnt2) g2)∧Aside0 (gSpans l.length k bl (ps.drop i) i g2=G2)∧Aside0 (PW gb pb nb mb xb B N b (some ad) l.length c0 A1 c1 ps base (work+bl.f2) cnt2 g2 w') ∧
    Hid (w'.heap[jb]?=some (.cells #[.int .i64 bl.f0,.int .i64 bl.f1,.int .i64 bl.f2] 46 (0,0)))∧Aside0 (Below w.heap.size w w'))
   case atStart=>exact ⟨0,cnt+1,_,rfl,by omega,by omega,HG8,HJ8,HPW8,HJB8,HBL8⟩
   case round =>
    clear HG8 HJ8 HPW8 HJB8 HBL8
    obtain ⟨i,cnt2,g2,rfl,hi,hcnt2,HG2,HJ2,HPW9,HJB9,HBL9⟩:=hrel
    by_cases hlt2:i<ps.length
    ·have d3:decide ((i:Int)<(ps.length:Int))=true:=decide_eq_true (by omega)
     obtain ⟨ad1,e1,hs0,hs1⟩:=at_T34 (Kd.R_reads' HPW9.out.pa).2.2 (i:Int) (by omega) (by omega)
     rw [Int.toNat_natCast] at hs0 hs1
     cases e1
     have hlt2' : (i:Int)<(ps.length:Int):=by omega
     have i0:(0:Int)≤(i:Int):=by omega
     have hdrop2:ps.drop i=rd_T34 ps (i:Int)::ps.drop (i+1):=by
      rw [List.drop_eq_getElem_cons hlt2]
      unfold rd_T34;rw [Int.toNat_natCast,List.getD_eq_getElem?_getD,List.getElem?_eq_getElem hlt2];rfl
     have hmem:rd_T34 ps (i:Int) ∈ ps:=List.mem_of_mem_drop (by rw [hdrop2];exact List.mem_cons_self)
     have hspv:=HPV.out _ hmem
     clear hmem
     have HLT2:=hid hlt2
     obtain ⟨sp,hsp⟩:∃ sp,sp=rd_T34 ps (i:Int):=⟨_,rfl⟩
     rw [← hsp] at hs0 hs1 hspv hdrop2
     clear hsp hlt2
     obtain ⟨s0,s1,s2⟩:=hspv
     have HD2:=hid hdrop2
     clear hdrop2
     have hj2:=HJ2.out
     rw [HD2.out] at hj2
     unfold gSpans at hj2
     have HJ3:=hid hj2
     clear hj2 HJ2
     have c0_:(wr.alloc (.cells #[.int .i64 sp.f0,.int .i64 sp.f1] 209)).cell? ⟨jb,0,none⟩=some (.int .i64 bl.f0):=pw_cell_below (below_alloc (Below.refl _ _) _) (by simp [World.cell?,HJB9.out])
     have c1_:(wr.alloc (.cells #[.int .i64 sp.f0,.int .i64 sp.f1] 209)).cell? ⟨jb,1,none⟩=some (.int .i64 bl.f1):=pw_cell_below (below_alloc (Below.refl _ _) _) (by simp [World.cell?,HJB9.out])
     by_cases hA:bl.f0≤sp.f0
     ·have dA:decide (bl.f0≤sp.f0)=true:=decide_eq_true hA
      by_cases hB:sp.f1≤bl.f1
      ·have dB:decide (sp.f1≤bl.f1)=true:=decide_eq_true hB
       have hft:fits bl sp=true:=decide_eq_true ⟨hA,hB⟩
       have hj4:=HJ3.out
       rw [if_pos hft] at hj4
       have HJ4:=hid hj4
       clear hft hj4 HJ3 hA hB
       go_wp2_with (fail)
       obtain ⟨sb,hsb⟩:∃ sb,sb=wr.heap.size:=⟨_,rfl⟩
       obtain ⟨W10,hW10⟩:∃ W10,W10=wr.alloc (.cells #[.int .i64 sp.f0,.int .i64 sp.f1] 209):=⟨_,rfl⟩
       have hb10:Below wr.heap.size wr W10:=by rw [hW10];exact below_alloc (Below.refl _ _) _
       have HSB9:=hid (show W10.heap[sb]?=some (.cells #[.int .i64 sp.f0,.int .i64 sp.f1] 209 (0,0)) by rw [hW10,hsb];exact blk_new _ _)
       rw [← hW10,← hsb]
       clear hW10 hsb hs0 hs1 c0_ c1_
       have HPW10a:=Aside0.mk (HPW9.out.below hb10)
       have HBL10a:=Aside0.mk (HBL9.out.trans (hb10.mono HBL9.out.size))
       have HJB10a:=hid (show W10.heap[jb]?=some (.cells #[.int .i64 bl.f0,.int .i64 bl.f1,.int .i64 bl.f2] 46 (0,0)) from (hb10.block jb (lt_of_some HJB9.out)).trans HJB9.out)
       clear hb10 HPW9 HBL9 HJB9
       have HPW10:=Aside0.mk (HPW10a.out.below (below_drew1 (Below.refl _ _)))
       have HBL10:=Aside0.mk (HBL10a.out.drew)
       have HJB10:=hid (show W10.drew.heap[jb]?=some (.cells #[.int .i64 bl.f0,.int .i64 bl.f1,.int .i64 bl.f2] 46 (0,0)) from HJB10a.out)
       have HSB10:=hid (show W10.drew.heap[sb]?=some (.cells #[.int .i64 sp.f0,.int .i64 sp.f1] 209 (0,0)) from HSB9.out)
       have HS12:=hid (show W10.drew.cell? ⟨pb,2,none⟩=some (.pointer (some ⟨nb,0,none⟩))∧W10.drew.cell? ⟨sb,0,none⟩=some (.int .i64 sp.f0)∧W10.drew.cell? ⟨sb,1,none⟩=some (.int .i64 sp.f1) from ⟨HPW10.out.pr.cells.2.2.1,by show W10.cell? _=_;simp [World.cell?,HSB9.out],by show W10.cell? _=_;simp [World.cell?,HSB9.out]⟩)
       clear HPW10a HBL10a HJB10a HSB9
       refine start_ (n:=13) (S:=fun w'=>w'.cell? ⟨pb,2,none⟩=some (.pointer (some ⟨nb,0,none⟩))∧w'.cell? ⟨sb,0,none⟩=some (.int .i64 sp.f0)∧w'.cell? ⟨sb,1,none⟩=some (.int .i64 sp.f1)) (ds:=[]) #[false,false,false,false,false,false,false,false,false,false,false,false,false] (by kernel_rfl) rfl rfl HS12.out (fun hHeld=>?_)
       refine pure_ (i:=0) (N:=some 71) (v:=?_) (a':=?_) #[true,false,false,false,false,false,false,false,false,false,false,false,false] rfl rfl (by kernel_rfl) (fun _ _ _ h=>h) (Or.inl ⟨by rfl,?_⟩) ?_ ?_
       rotate_left
       ·intro w'
        go_simp
        with_reducible rfl
       rotate_left
       ·simp only [Act.put,sp__,i64_w,i32_w]
        rfl
       refine pure_ (i:=1) (N:=some 72) (v:=?_) (a':=?_) #[true,true,false,false,false,false,false,false,false,false,false,false,false] rfl rfl (by kernel_rfl) (fun _ _ _ h=>h) (Or.inl ⟨by rfl,?_⟩) ?_ ?_
       rotate_left
       ·intro w'
        go_simp
        with_reducible rfl
       rotate_left
       ·simp only [Act.put,sp__,i64_w,i32_w]
        rfl
       refine pure_ (i:=2) (N:=some 73) (v:=?_) (a':=?_) #[true,true,true,false,false,false,false,false,false,false,false,false,false] rfl rfl (by kernel_rfl) (fun _ _ _ h=>h) (Or.inl ⟨by rfl,?_⟩) ?_ ?_
       rotate_left
       ·intro w'
        go_simp
        with_reducible rfl
       rotate_left
       ·simp only [Act.put,sp__,i64_w,i32_w]
        rfl
       refine take_ (i:=3) (N:=some 74) (v:=?_) (a':=?_) #[true,true,true,true,false,false,false,false,false,false,false,false,false] rfl rfl (by kernel_rfl) (fun _ _ _ h=>h) (Or.inl ⟨by rfl,?_⟩) hHeld ?_ ?_
       rotate_left
       ·rintro w' ⟨s0,s1,s2⟩
        go_simp
        with_reducible rfl
       rotate_left
       ·simp only [Act.put,sp__,i64_w,i32_w]
        rfl
       refine pure_ (i:=4) (N:=some 75) (v:=?_) (a':=?_) #[true,true,true,true,true,false,false,false,false,false,false,false,false] rfl rfl (by kernel_rfl) (fun _ _ _ h=>h) (Or.inl ⟨by rfl,?_⟩) ?_ ?_
       rotate_left
       ·intro w'
        go_simp
        with_reducible rfl
       rotate_left
       ·simp only [Act.put,sp__,i64_w,i32_w]
        rfl
       refine pure_ (i:=5) (N:=some 76) (v:=?_) (a':=?_) #[true,true,true,true,true,true,false,false,false,false,false,false,false] rfl rfl (by kernel_rfl) (fun _ _ _ h=>h) (Or.inl ⟨by rfl,?_⟩) ?_ ?_
       rotate_left
       ·intro w'
        go_simp
        with_reducible rfl
       rotate_left
       ·simp only [Act.put,sp__,i64_w,i32_w]
        rfl
       refine pure_ (i:=7) (N:=some 78) (v:=?_) (a':=?_) #[true,true,true,true,true,true,false,true,false,false,false,false,false] rfl rfl (by kernel_rfl) (fun _ _ _ h=>h) (Or.inl ⟨by rfl,?_⟩) ?_ ?_
       rotate_left
       ·intro w'
        go_simp
        with_reducible rfl
       rotate_left
       ·simp only [Act.put,sp__,i64_w,i32_w]
        rfl
       refine pure_ (i:=8) (N:=some 79) (v:=?_) (a':=?_) #[true,true,true,true,true,true,false,true,true,false,false,false,false] rfl rfl (by kernel_rfl) (fun _ _ _ h=>h) (Or.inl ⟨by rfl,?_⟩) ?_ ?_
       rotate_left
       ·intro w'
        go_simp
        with_reducible rfl
       rotate_left
       ·simp only [Act.put,sp__,i64_w,i32_w]
        rfl
       refine take_ (i:=10) (N:=some 81) (v:=?_) (a':=?_) #[true,true,true,true,true,true,false,true,true,false,true,false,false] rfl rfl (by kernel_rfl) (fun _ _ _ h=>h) (Or.inl ⟨by rfl,?_⟩) hHeld ?_ ?_
       rotate_left
       ·rintro w' ⟨s0,s1,s2⟩
        go_simp
        with_reducible rfl
       rotate_left
       ·simp only [Act.put,sp__,i64_w,i32_w]
        rfl
       refine one_ (i:=6) (N:=some 77) #[true,true,true,true,true,true,true,true,true,false,true,false,false] rfl rfl (by kernel_rfl) (by decide) (fun K hK=>?_)
       refine goes_ Tryz.func102 (by kernel_rfl) rfl #[.pointer (some ⟨pb,0,none⟩),.int .i64 k] (by rfl) rfl rfl (by (try simp only [List.map_toArray,List.map_cons,List.map_nil]);first|done|rfl) ?_
       refine (job_walk pb k _ (by omega)).mono ?_
       rintro e w9 ⟨rfl,rfl⟩
       refine ⟨_,rfl,?_⟩
       refine hK.out _ _ HS12.out (fun hHeld=>?_)
       clear hK K
       refine norm_ (a':=?_) ?_ ?_
       rotate_left
       ·show Act.put _ (some 77) _=_
        simp only [Act.put,sp__,i64_w,i32_w]
        rfl
       refine one_ (i:=9) (N:=some 80) #[true,true,true,true,true,true,true,true,true,true,true,false,false] rfl rfl (by kernel_rfl) (by decide) (fun K hK=>?_)
       refine goes_ Tryz.func103 (by kernel_rfl) rfl #[.pointer (some ⟨pb,0,none⟩),.int .i64 i] (by rfl) rfl rfl (by (try simp only [List.map_toArray,List.map_cons,List.map_nil]);first|done|rfl) ?_
       refine (part_walk pb b _ l.length c0 _ _ ps.length c1 _ i _ (HPW10.out.pr) (by omega) (by omega)).mono ?_
       rintro e w9 ⟨rfl,rfl⟩
       refine ⟨_,rfl,?_⟩
       refine hK.out _ _ HS12.out (fun hHeld=>?_)
       clear hK K
       refine norm_ (a':=?_) ?_ ?_
       rotate_left
       ·show Act.put _ (some 80) _=_
        simp only [Act.put,sp__,i64_w,i32_w]
        rfl
       refine one_ (i:=11) (N:=some 82) #[true,true,true,true,true,true,true,true,true,true,true,true,false] rfl rfl (by kernel_rfl) (by decide) (fun K hK=>?_)
       refine goes_ Tryz.func104 (by kernel_rfl) rfl #[.agg #[.int .i64 sp.f0,.int .i64 sp.f1]] (by rfl) rfl rfl (by (try simp only [List.map_toArray,List.map_cons,List.map_nil]);first|done|rfl) ?_
       refine (length_walk sp.f0 sp.f1 _ (by omega) (by omega) (by omega) (by omega)).mono ?_
       rintro e w11 ⟨rfl,hb11⟩
       have HPW11:=Aside0.mk (HPW10.out.below hb11)
       have HBL11:=Aside0.mk (HBL10.out.trans (hb11.mono HBL10.out.size))
       have HJB11:=hid ((hb11.block jb (lt_of_some HJB10.out)).trans HJB10.out)
       have HSB11:=hid ((hb11.block sb (lt_of_some HSB10.out)).trans HSB10.out)
       have g0_:=pw_cell_below hb11 HS12.out.1
       have g1_:=pw_cell_below hb11 HS12.out.2.1
       have g2_:=pw_cell_below hb11 HS12.out.2.2
       have HS13:=hid (And.intro g0_ (And.intro g1_ g2_))
       obtain ⟨vs11,hn11⟩:=HPW11.out.net
       have HN11:=hid hn11
       clear hb11 hn11 g0_ g1_ g2_
       refine ⟨_,rfl,?_⟩
       refine hK.out _ _ HS13.out (fun hHeld=>?_)
       clear hK K
       refine norm_ (a':=?_) ?_ ?_
       rotate_left
       ·show Act.put _ (some 82) _=_
        simp only [Act.put,sp__,i64_w,i32_w]
        rfl
       refine one_ (i:=12) (N:=some 83) #[true,true,true,true,true,true,true,true,true,true,true,true,true] rfl rfl (by kernel_rfl) (by decide) (fun K hK=>?_)
       refine goes_ Tryz.func101 (by kernel_rfl) rfl #[.pointer (some ⟨nb,0,none⟩),.int .i64 ((1+k:Nat):Int),.int .i64 ((1+l.length+i:Nat):Int),.int .i64 (sp.f1-sp.f0)] (by rfl) rfl rfl (by (try simp only [List.map_toArray,List.map_cons,List.map_nil]);first|done|rfl) ?_
       refine (add_walk nb mb xb B N cnt2 g2.1 g2.2 vs11 w11 (1+k) (1+l.length+i) (sp.f1-sp.f0) HN11.out hNb (by omega) (by have:=HNN.out;omega) (by have:=HNN.out;omega) (wfN (by omega) (by omega)) (fun i=>Nat.lt_of_le_of_lt (HG2.out.len i) (by omega))).mono ?_
       rintro e w12 ⟨rfl,hn12,hk12⟩
       have HPW12:=Aside0.mk (PW.keep (g':=addG g2 (1+k) (1+l.length+i) (sp.f1-sp.f0)) HPW11.out hk12 hn12)
       have HBL12:=Aside0.mk (HBL11.out.trans (hk12.bel.mono HBB.out))
       have HJB12:=hid (hk12.blk jb _ _ _ HJB11.out (by decide) (by decide))
       have HSB12:=hid (hk12.blk sb _ _ _ ((show w11.heap[sb]?=_ from HSB11.out)) (by decide) (by decide))
       have g0_:=(HPW12.out.pr.cells).2.2.1
       have g1_:w12.cell? ⟨sb,0,none⟩=some (.int .i64 sp.f0):=by simp [World.cell?,HSB12.out]
       have g2_:w12.cell? ⟨sb,1,none⟩=some (.int .i64 sp.f1):=by simp [World.cell?,HSB12.out]
       clear hn12 hk12
       refine ⟨_,rfl,?_⟩
       refine hK.out _ _ ⟨g0_,g1_,g2_⟩ (fun hHeld=>?_)
       clear hK K
       refine norm_ (a':=?_) ?_ ?_
       rotate_left
       ·show Act.put _ (some 83) _=_
        simp only [Act.put,sp__,i64_w,i32_w]
        rfl
       refine done_ (by kernel_rfl) ?_
       clear g0_ g1_ g2_
       have HG3:Aside0 (GrOk N (2*(cnt2+1)) (addG g2 (1+k) (1+l.length+i) (sp.f1-sp.f0))):=⟨(HG2.out.add (by have:=HNN.out;omega) (by have:=HNN.out;have:=HLT2.out;omega) _).mono (by omega)⟩
       go_wp2_with (fail)
       go_roundg (gk-1)
       case rel =>
        exact ⟨i+1,cnt2+1,_,by go_num,by have:=HLT2.out;omega,by omega,HG3,⟨HJ4.out⟩,HPW12,HJB12,HBL12⟩
       case measure=>have:=HLT2.out;omega
      ·have dB:decide (sp.f1≤bl.f1)=false:=decide_eq_false hB
       have hft:¬ fits bl sp=true:=fun h=>hB (of_decide_eq_true h).2
       have hj4:=HJ3.out
       rw [if_neg hft] at hj4
       have HJ4:=hid hj4
       clear hft hj4 HJ3 hA hB
       go_wp2_with (fail)
       go_roundg (gk-1)
       case rel =>
        exact ⟨i+1,cnt2,g2,by go_num,by have:=HLT2.out;omega,by omega,HG2,⟨HJ4.out⟩,⟨HPW9.out.below (below_alloc (Below.refl _ _) _)⟩,hid (((below_alloc (Below.refl wr.heap.size wr) (.cells #[.int .i64 sp.f0,.int .i64 sp.f1] 209)).block jb (lt_of_some HJB9.out)).trans HJB9.out),⟨below_alloc HBL9.out _⟩⟩
       case measure=>have:=HLT2.out;omega
     ·have dA:decide (bl.f0≤sp.f0)=false:=decide_eq_false hA
      have hft:¬ fits bl sp=true:=fun h=>hA (of_decide_eq_true h).1
      have hj4:=HJ3.out
      rw [if_neg hft] at hj4
      have HJ4:=hid hj4
      clear hft hj4 HJ3 hA
      go_wp2_with (fail)
      go_roundg (gk-1)
      case rel =>
       exact ⟨i+1,cnt2,g2,by go_num,by have:=HLT2.out;omega,by omega,HG2,⟨HJ4.out⟩,⟨HPW9.out.below (below_alloc (Below.refl _ _) _)⟩,hid (((below_alloc (Below.refl wr.heap.size wr) (.cells #[.int .i64 sp.f0,.int .i64 sp.f1] 209)).block jb (lt_of_some HJB9.out)).trans HJB9.out),⟨below_alloc HBL9.out _⟩⟩
      case measure=>have:=HLT2.out;omega
    ·have d3:decide ((i:Int)<(ps.length:Int))=false:=decide_eq_false (by omega)
     have hj2:=HJ2.out
     rw [List.drop_eq_nil_of_le (by omega)] at hj2
     have hj3:g2=G2:=hj2
     have hj5:gJobs l.length ps (l.drop (k+1)) (k+1) g2=G1:=by
      have h:=HJ.out
      rw [HD.out] at h
      rw [hj3,HG2E.out]
      exact h
     have hw5:work+bl.f2+workF (l.drop (k+1))=workF l:=by
      have h:=HW.out
      rw [HD.out] at h
      have e:workF (bl::l.drop (k+1))=bl.f2+workF (l.drop (k+1)):=by unfold workF;rw [List.map_cons,List.sum_cons]
      omega
     have HJ5:=Aside0.mk hj5
     have HW5:=Aside0.mk hw5
     clear hj2 hj3 hj5 hw5 HJ2 HG2E
     go_wp2_with (fail)
     go_roundg (l.length-(k+1))
     case rel=>exact ⟨k+1,cnt2,g2,work+bl.f2,by go_num,by have:=HLT.out;omega,by omega,by omega,by omega,HG2,HJ5,HW5,HPW9,HBL9⟩
     case measure=>have:=HLT.out;omega
  ·have d2:decide ((k:Int)<(l.length:Int))=false:=decide_eq_false (by omega)
   have hj2:=HJ.out
   rw [List.drop_eq_nil_of_le (by omega)] at hj2
   have hj3:g=G1:=hj2
   have hw3:work=workF l:=by
    have h:=HW.out
    rw [List.drop_eq_nil_of_le (by omega)] at h
    have e:workF []=0:=rfl
    omega
   subst hj3
   have HWE:=hid hw3
   clear hj2 hw3 HJ HW
   have hpsv:∀ s,s ∈ ps→0≤s.f0∧s.f0<s.f1∧s.f1≤1000:=fun s hs=>spansF_ok l HV.out s (by rw [← HPS.out];exact hs)
   have HPV:=hid hpsv
   clear hpsv
   have q3:wr.cell? ⟨pb,3,none⟩=some (.slice A1 ps.length c1):=HPW.out.pr.cells.2.2.2.1
   have HBB:=hid (show w.heap.size≤B by rw [← HGB.out];omega)
   go_wp2_with (fail)
   clear q3
   have HJ8:Aside0 (gEnds b l.length ps.length (ps.drop 0) 0 g=gEnds b l.length ps.length ps 0 g):=⟨rfl⟩
   obtain ⟨G2,hG2⟩:∃ G2,G2=gEnds b l.length ps.length ps 0 g:=⟨_,rfl⟩
   rw [← hG2] at HJ8
   have HG2E:=hid hG2
   have HG1E:=hid (show g=gJobs l.length ps l 0 g0 from HG1.out)
   clear hG2
   go_loopg [91] ps.length (fun kq v91 w'=>∃ (i cnt2:Nat) (g2:Gr),v91=.int .i64 i∧i+kq=ps.length∧cnt2≤100*k+i∧Aside0 (GrOk N (2*cnt2) g2)∧Aside0 (gEnds b l.length ps.length (ps.drop i) i g2=G2)∧Aside0 (PW gb pb nb mb xb B N b A0 l.length c0 A1 c1 ps base work cnt2 g2 w')∧Aside0 (Below w.heap.size w w'))
   case atStart=>exact ⟨0,cnt,g,rfl,by omega,by omega,HG,HJ8,HPW,HBL⟩
   case round =>
    clear HG HJ8 HPW HBL
    obtain ⟨i,cnt2,g2,rfl,hi,hcnt2,HG2,HJ2,HPW9,HBL9⟩:=hrel
    by_cases hlt2:i<ps.length
    ·have d3:decide ((i:Int)<(ps.length:Int))=true:=decide_eq_true (by omega)
     obtain ⟨ad1,e1,hs0,hs1⟩:=at_T34 (Kd.R_reads' HPW9.out.pa).2.2 (i:Int) (by omega) (by omega)
     rw [Int.toNat_natCast] at hs0 hs1
     cases e1
     have hlt2' : (i:Int)<(ps.length:Int):=by omega
     have i0:(0:Int)≤(i:Int):=by omega
     have hdrop2:ps.drop i=rd_T34 ps (i:Int)::ps.drop (i+1):=by
      rw [List.drop_eq_getElem_cons hlt2]
      unfold rd_T34;rw [Int.toNat_natCast,List.getD_eq_getElem?_getD,List.getElem?_eq_getElem hlt2];rfl
     have hmem:rd_T34 ps (i:Int) ∈ ps:=List.mem_of_mem_drop (by rw [hdrop2];exact List.mem_cons_self)
     have hspv:=HPV.out _ hmem
     clear hmem
     have HLT2:=hid hlt2
     obtain ⟨sp,hsp⟩:∃ sp,sp=rd_T34 ps (i:Int):=⟨_,rfl⟩
     rw [← hsp] at hs0 hs1 hspv hdrop2
     clear hsp hlt2
     obtain ⟨s0,s1,s2⟩:=hspv
     have HD2:=hid hdrop2
     clear hdrop2
     have hj2:=HJ2.out
     rw [HD2.out] at hj2
     unfold gEnds at hj2
     have HJ4:=hid hj2
     clear hj2 HJ2
     have hmul:0≤(b:Int)*(sp.f1-sp.f0)∧(b:Int)*(sp.f1-sp.f0)≤8000:=by
      refine ⟨Int.mul_nonneg (by omega) (by omega),?_⟩
      have:=Int.mul_le_mul (show (b:Int)≤8 by omega) (show sp.f1-sp.f0≤1000 by omega) (by omega) (by omega)
      omega
     obtain ⟨hmul0,hmul1⟩:=hmul
     have hwr:IntKind.i64.wrap ((b:Int)*(sp.f1-sp.f0))=(b:Int)*(sp.f1-sp.f0):=IntWalk.i64_in _ (by omega)
     go_wp2_with (fail)
     obtain ⟨sb,hsb⟩:∃ sb,sb=wr.heap.size:=⟨_,rfl⟩
     obtain ⟨W10,hW10⟩:∃ W10,W10=wr.alloc (.cells #[.int .i64 sp.f0,.int .i64 sp.f1] 209):=⟨_,rfl⟩
     have hb10:Below wr.heap.size wr W10:=by rw [hW10];exact below_alloc (Below.refl _ _) _
     have HSB9:=hid (show W10.heap[sb]?=some (.cells #[.int .i64 sp.f0,.int .i64 sp.f1] 209 (0,0)) by rw [hW10,hsb];exact blk_new _ _)
     rw [← hW10,← hsb]
     clear hW10 hsb hs0 hs1
     have HPW10:=Aside0.mk ((HPW9.out.below hb10).below (below_drew1 (Below.refl _ _)))
     have HBL10:=Aside0.mk (HBL9.out.trans (hb10.mono HBL9.out.size)).drew
     have HSB10:=hid (show W10.drew.heap[sb]?=some (.cells #[.int .i64 sp.f0,.int .i64 sp.f1] 209 (0,0)) from HSB9.out)
     clear hb10 HPW9 HBL9
     have HS12:=hid (show W10.drew.cell? ⟨pb,2,none⟩=some (.pointer (some ⟨nb,0,none⟩))∧W10.drew.cell? ⟨sb,0,none⟩=some (.int .i64 sp.f0)∧W10.drew.cell? ⟨sb,1,none⟩=some (.int .i64 sp.f1)∧W10.drew.cell? ⟨gb,0,none⟩=some (.int .i64 b) from ⟨HPW10.out.pr.cells.2.2.1,by show W10.cell? _=_;simp [World.cell?,HSB9.out],by show W10.cell? _=_;simp [World.cell?,HSB9.out],by have h:=HPW10.out.tb;simp only [World.cell?,h];rfl⟩)
     clear HSB9
     refine start_ (n:=15) (S:=fun w'=>w'.cell? ⟨pb,2,none⟩=some (.pointer (some ⟨nb,0,none⟩))∧w'.cell? ⟨sb,0,none⟩=some (.int .i64 sp.f0)∧w'.cell? ⟨sb,1,none⟩=some (.int .i64 sp.f1)∧w'.cell? ⟨gb,0,none⟩=some (.int .i64 b)) (ds:=[]) #[false,false,false,false,false,false,false,false,false,false,false,false,false,false,false] (by kernel_rfl) rfl rfl HS12.out (fun hHeld=>?_)
     refine pure_ (i:=0) (N:=some 96) (v:=?_) (a':=?_) #[true,false,false,false,false,false,false,false,false,false,false,false,false,false,false] rfl rfl (by kernel_rfl) (fun _ _ _ h=>h) (Or.inl ⟨by rfl,?_⟩) ?_ ?_
     rotate_left
     ·intro w'
      go_simp
      with_reducible rfl
     rotate_left
     ·simp only [Act.put,sp__,i64_w,i32_w]
      rfl
     refine pure_ (i:=1) (N:=some 97) (v:=?_) (a':=?_) #[true,true,false,false,false,false,false,false,false,false,false,false,false,false,false] rfl rfl (by kernel_rfl) (fun _ _ _ h=>h) (Or.inl ⟨by rfl,?_⟩) ?_ ?_
     rotate_left
     ·intro w'
      go_simp
      with_reducible rfl
     rotate_left
     ·simp only [Act.put,sp__,i64_w,i32_w]
      rfl
     refine pure_ (i:=2) (N:=some 98) (v:=?_) (a':=?_) #[true,true,true,false,false,false,false,false,false,false,false,false,false,false,false] rfl rfl (by kernel_rfl) (fun _ _ _ h=>h) (Or.inl ⟨by rfl,?_⟩) ?_ ?_
     rotate_left
     ·intro w'
      go_simp
      with_reducible rfl
     rotate_left
     ·simp only [Act.put,sp__,i64_w,i32_w]
      rfl
     refine take_ (i:=3) (N:=some 99) (v:=?_) (a':=?_) #[true,true,true,true,false,false,false,false,false,false,false,false,false,false,false] rfl rfl (by kernel_rfl) (fun _ _ _ h=>h) (Or.inl ⟨by rfl,?_⟩) hHeld ?_ ?_
     rotate_left
     ·rintro w' ⟨s0,s1,s2,s3⟩
      go_simp
      with_reducible rfl
     rotate_left
     ·simp only [Act.put,sp__,i64_w,i32_w]
      rfl
     refine pure_ (i:=4) (N:=some 100) (v:=?_) (a':=?_) #[true,true,true,true,true,false,false,false,false,false,false,false,false,false,false] rfl rfl (by kernel_rfl) (fun _ _ _ h=>h) (Or.inl ⟨by rfl,?_⟩) ?_ ?_
     rotate_left
     ·intro w'
      go_simp
      with_reducible rfl
     rotate_left
     ·simp only [Act.put,sp__,i64_w,i32_w]
      rfl
     refine pure_ (i:=5) (N:=some 101) (v:=?_) (a':=?_) #[true,true,true,true,true,true,false,false,false,false,false,false,false,false,false] rfl rfl (by kernel_rfl) (fun _ _ _ h=>h) (Or.inl ⟨by rfl,?_⟩) ?_ ?_
     rotate_left
     ·intro w'
      go_simp
      with_reducible rfl
     rotate_left
     ·simp only [Act.put,sp__,i64_w,i32_w]
      rfl
     refine pure_ (i:=7) (N:=some 103) (v:=?_) (a':=?_) #[true,true,true,true,true,true,false,true,false,false,false,false,false,false,false] rfl rfl (by kernel_rfl) (fun _ _ _ h=>h) (Or.inl ⟨by rfl,?_⟩) ?_ ?_
     rotate_left
     ·intro w'
      go_simp
      with_reducible rfl
     rotate_left
     ·simp only [Act.put,sp__,i64_w,i32_w]
      rfl
     refine pure_ (i:=9) (N:=some 105) (v:=?_) (a':=?_) #[true,true,true,true,true,true,false,true,false,true,false,false,false,false,false] rfl rfl (by kernel_rfl) (fun _ _ _ h=>h) (Or.inl ⟨by rfl,?_⟩) ?_ ?_
     rotate_left
     ·intro w'
      go_simp
      with_reducible rfl
     rotate_left
     ·simp only [Act.put,sp__,i64_w,i32_w]
      rfl
     refine take_ (i:=10) (N:=some 106) (v:=?_) (a':=?_) #[true,true,true,true,true,true,false,true,false,true,true,false,false,false,false] rfl rfl (by kernel_rfl) (fun _ _ _ h=>h) (Or.inl ⟨by rfl,?_⟩) hHeld ?_ ?_
     rotate_left
     ·rintro w' ⟨s0,s1,s2,s3⟩
      go_simp
      with_reducible rfl
     rotate_left
     ·simp only [Act.put,sp__,i64_w,i32_w]
      rfl
     refine take_ (i:=11) (N:=some 107) (v:=?_) (a':=?_) #[true,true,true,true,true,true,false,true,false,true,true,true,false,false,false] rfl rfl (by kernel_rfl) (fun _ _ _ h=>h) (Or.inl ⟨by rfl,?_⟩) hHeld ?_ ?_
     rotate_left
     ·rintro w' ⟨s0,s1,s2,s3⟩
      go_simp
      with_reducible rfl
     rotate_left
     ·simp only [Act.put,sp__,i64_w,i32_w]
      rfl
     refine one_ (i:=6) (N:=some 102) #[true,true,true,true,true,true,true,true,false,true,true,true,false,false,false] rfl rfl (by kernel_rfl) (by decide) (fun K hK=>?_)
     refine goes_ Tryz.func103 (by kernel_rfl) rfl #[.pointer (some ⟨pb,0,none⟩),.int .i64 i] (by rfl) rfl rfl (by (try simp only [List.map_toArray,List.map_cons,List.map_nil]);first|done|rfl) ?_
     refine (part_walk pb b _ l.length c0 _ _ ps.length c1 _ i _ (HPW10.out.pr) (by omega) (by omega)).mono ?_
     rintro e w9 ⟨rfl,rfl⟩
     refine ⟨_,rfl,?_⟩
     refine hK.out _ _ HS12.out (fun hHeld=>?_)
     clear hK K
     refine norm_ (a':=?_) ?_ ?_
     rotate_left
     ·show Act.put _ (some 102) _=_
      simp only [Act.put,sp__,i64_w,i32_w]
      rfl
     refine one_ (i:=8) (N:=some 104) #[true,true,true,true,true,true,true,true,true,true,true,true,false,false,false] rfl rfl (by kernel_rfl) (by decide) (fun K hK=>?_)
     refine goes_ Tryz.func70 (by kernel_rfl) rfl #[.pointer (some ⟨pb,0,none⟩)] (by rfl) rfl rfl (by (try simp only [List.map_toArray,List.map_cons,List.map_nil]);first|done|rfl) ?_
     refine (last_walk pb b _ l.length c0 _ _ ps.length c1 _ _ (HPW10.out.pr) (by omega) (by omega)).mono ?_
     rintro e w9 ⟨rfl,q9,rfl⟩
     have hb9:=pw_below_drewN (Below.refl W10.drew.heap.size W10.drew) q9
     have HPW9b:=Aside0.mk (HPW10.out.below hb9)
     have HBL9b:=Aside0.mk (HBL10.out.trans (hb9.mono HBL10.out.size))
     have HTB9b:=hid ((hb9.block gb (lt_of_some HPW10.out.tb)).trans HPW10.out.tb)
     have HSB9b:=hid ((hb9.block sb (lt_of_some HSB10.out)).trans HSB10.out)
     have h0_:=pw_cell_below hb9 HS12.out.1
     have h1_:=pw_cell_below hb9 HS12.out.2.1
     have h2_:=pw_cell_below hb9 HS12.out.2.2.1
     have h3_:=pw_cell_below hb9 HS12.out.2.2.2
     have HS13:=hid (And.intro h0_ (And.intro h1_ (And.intro h2_ h3_)))
     clear hb9 h0_ h1_ h2_ h3_
     refine ⟨_,rfl,?_⟩
     refine hK.out _ _ HS13.out (fun hHeld=>?_)
     clear hK K
     refine norm_ (a':=?_) ?_ ?_
     rotate_left
     ·show Act.put _ (some 104) _=_
      simp only [Act.put,sp__,i64_w,i32_w]
      rfl
     refine one_ (i:=12) (N:=some 108) #[true,true,true,true,true,true,true,true,true,true,true,true,true,false,false] rfl rfl (by kernel_rfl) (by decide) (fun K hK=>?_)
     refine goes_ Tryz.func104 (by kernel_rfl) rfl #[.agg #[.int .i64 sp.f0,.int .i64 sp.f1]] (by rfl) rfl rfl (by (try simp only [List.map_toArray,List.map_cons,List.map_nil]);first|done|rfl) ?_
     refine (length_walk sp.f0 sp.f1 _ (by omega) (by omega) (by omega) (by omega)).mono ?_
     rintro e w11 ⟨rfl,hb11⟩
     have HPW11:=Aside0.mk (HPW9b.out.below hb11)
     have HBL11:=Aside0.mk (HBL9b.out.trans (hb11.mono HBL9b.out.size))
     have HTB11:=hid ((hb11.block gb (lt_of_some HTB9b.out)).trans HTB9b.out)
     have HSB11:=hid ((hb11.block sb (lt_of_some HSB9b.out)).trans HSB9b.out)
     have g0_:=pw_cell_below hb11 HS13.out.1
     have g1_:=pw_cell_below hb11 HS13.out.2.1
     have g2_:=pw_cell_below hb11 HS13.out.2.2.1
     have g3_:=pw_cell_below hb11 HS13.out.2.2.2
     have HS14:=hid (And.intro g0_ (And.intro g1_ (And.intro g2_ g3_)))
     obtain ⟨vs11,hn11⟩:=HPW11.out.net
     have HN11:=hid hn11
     clear hb11 hn11 g0_ g1_ g2_ g3_
     refine ⟨_,rfl,?_⟩
     refine hK.out _ _ HS14.out (fun hHeld=>?_)
     clear hK K
     refine norm_ (a':=?_) ?_ ?_
     rotate_left
     ·show Act.put _ (some 108) _=_
      simp only [Act.put,sp__,i64_w,i32_w]
      rfl
     refine pure_ (i:=13) (N:=some 109) (v:=?_) (a':=?_) #[true,true,true,true,true,true,true,true,true,true,true,true,true,true,false] rfl rfl (by kernel_rfl) (fun _ _ _ h=>h) (Or.inl ⟨by rfl,?_⟩) ?_ ?_
     rotate_left
     ·intro w'
      go_simp
      with_reducible rfl
     rotate_left
     ·simp only [Act.put,sp__,i64_w,i32_w]
      rfl
     refine one_ (i:=14) (N:=some 110) #[true,true,true,true,true,true,true,true,true,true,true,true,true,true,true] rfl rfl (by kernel_rfl) (by decide) (fun K hK=>?_)
     refine goes_ Tryz.func101 (by kernel_rfl) rfl #[.pointer (some ⟨nb,0,none⟩),.int .i64 ((1+l.length+i:Nat):Int),.int .i64 ((1+l.length+ps.length:Nat):Int),.int .i64 ((b:Int)*(sp.f1-sp.f0))] (by rfl) rfl rfl (by (try simp only [List.map_toArray,List.map_cons,List.map_nil]);first|done|rfl) ?_
     refine (add_walk nb mb xb B N cnt2 g2.1 g2.2 vs11 w11 (1+l.length+i) (1+l.length+ps.length) ((b:Int)*(sp.f1-sp.f0)) HN11.out hNb (by omega) (by have:=HNN.out;omega) (by have:=HNN.out;omega) (wfN (by omega) (by omega)) (fun i=>Nat.lt_of_le_of_lt (HG2.out.len i) (by omega))).mono ?_
     rintro e w12 ⟨rfl,hn12,hk12⟩
     have HPW12:=Aside0.mk (PW.keep (g':=addG g2 (1+l.length+i) (1+l.length+ps.length) ((b:Int)*(sp.f1-sp.f0))) HPW11.out hk12 hn12)
     have HBL12:=Aside0.mk (HBL11.out.trans (hk12.bel.mono HBB.out))
     have HSB12:=hid (hk12.blk sb _ _ _ ((show w11.heap[sb]?=_ from HSB11.out)) (by decide) (by decide))
     have HTB12:=hid (hk12.blk gb _ _ _ ((show w11.heap[gb]?=_ from HTB11.out)) (by decide) (by decide))
     have g0_:=(HPW12.out.pr.cells).2.2.1
     have g1_:w12.cell? ⟨sb,0,none⟩=some (.int .i64 sp.f0):=by simp [World.cell?,HSB12.out]
     have g2_:w12.cell? ⟨sb,1,none⟩=some (.int .i64 sp.f1):=by simp [World.cell?,HSB12.out]
     have g3_:w12.cell? ⟨gb,0,none⟩=some (.int .i64 b):=by simp [World.cell?,HTB12.out]
     clear hn12 hk12
     refine ⟨_,rfl,?_⟩
     refine hK.out _ _ ⟨g0_,g1_,g2_,g3_⟩ (fun hHeld=>?_)
     clear hK K
     refine norm_ (a':=?_) ?_ ?_
     rotate_left
     ·show Act.put _ (some 110) _=_
      simp only [Act.put,sp__,i64_w,i32_w]
      rfl
     refine done_ (by kernel_rfl) ?_
     clear g0_ g1_ g2_ g3_
     have HG3:Aside0 (GrOk N (2*(cnt2+1)) (addG g2 (1+l.length+i) (1+l.length+ps.length) ((b:Int)*(sp.f1-sp.f0)))):=⟨(HG2.out.add (by have:=HNN.out;have:=HLT2.out;omega) (by have:=HNN.out;omega) _).mono (by omega)⟩
     go_wp2_with (fail)
     go_roundg (gk-1)
     case rel=>exact ⟨i+1,cnt2+1,_,by go_num,by have:=HLT2.out;omega,by omega,HG3,⟨HJ4.out⟩,HPW12,HBL12⟩
     case measure=>have:=HLT2.out;omega
    ·have d3:decide ((i:Int)<(ps.length:Int))=false:=decide_eq_false (by omega)
     have hj2:=HJ2.out
     rw [List.drop_eq_nil_of_le (by omega)] at hj2
     have hj3:g2=G2:=hj2
     have HJ3:=hid (show g2=probG b l ps from by rw [hj3,HG2E.out,HG1E.out,HG0E.out];rfl)
     clear hj2 hj3 HJ2
     go_wp2_with (fail)
     go_ret
     obtain ⟨vs9,hn9⟩:=HPW9.out.net
     refine ⟨pb,nb,mb,xb,B,cnt2,A1,c1,vs9,rfl,?_,?_,HBB.out,by omega,?_,hpB,HBL9.out⟩
     ·rw [← HPS.out,← HWE.out];exact HPW9.out.pr
     ·rw [← HPS.out];exact ⟨base,HPW9.out.pa⟩
     ·rw [← HPS.out,← HJ3.out,← HNN.out];exact hn9
end Go.Proofs.YtiioklboaookiaaGreatDoor.Q
namespace Go.Proofs.YtiioklboaookiaaGreatDoor.Q
open Go.RowKit Go.Proofs.YtiioklboaookiaaGreatDoorW.PrintWords Go.Proofs.YtiioklboaookiaaGreatDoorW.PrintLast Go.Proofs.YtiioklboaookiaaGreatDoor.Hand Go.Proofs.YtiioklboaookiaaGreatDoorW.PrintMore
attribute [local go_sem] max2_int min2_int max_two min_two max_three min_three max_four min_four
set_option linter.unusedVariables false
set_option linter.unusedSimpArgs false
theorem ProbAt.below {pb b:Nat} {A0:Option Addr} {n c0:Nat} {net:Value} {A1:Option Addr} {m c1:Nat} {work:Int} {w w1:World} (h:ProbAt pb b A0 n c0 net A1 m c1 work w) (hb:Below w.heap.size w w1):ProbAt pb b A0 n c0 net A1 m c1 work w1:=(hb.block pb (lt_of_some h)).trans h
theorem sum_nn:∀ (l:List Int),(∀ x,x ∈ l→0≤x)→0≤l.sum
 | [],_=>Int.le_refl _
 | a::l,h=>by
  rw [List.sum_cons]
  have:=h a List.mem_cons_self
  have:=sum_nn l (fun x hx=>h x (List.mem_cons_of_mem _ hx))
  omega
theorem job_walkI (pb k:Nat) (w:World) (hk:k≤1000):Calls Tryz.prog 102 #[.pointer (some ⟨pb,0,none⟩),.int .i64 k] w fun e w'=>e=.returned (.int .i64 (1+(k:Int)))∧w' = w:=by
 have h:=job_walk pb k w hk
 rw [show ((1+k:Nat):Int)=1+(k:Int) by omega] at h
 exact h
theorem part_walkI (pb b:Nat) (A0:Option Addr) (n c0:Nat) (net:Value) (A1:Option Addr) (m c1:Nat) (work:Int) (k:Nat) (w:World) (h:ProbAt pb b A0 n c0 net A1 m c1 work w) (hn:n≤1000) (hk:k≤1000):Calls Tryz.prog 103 #[.pointer (some ⟨pb,0,none⟩),.int .i64 k] w fun e w'=>e=.returned (.int .i64 (1+(n:Int)+(k:Int)))∧w' = w:=by
 have h:=part_walk pb b A0 n c0 net A1 m c1 work k w h hn hk
 rw [show ((1+n+k:Nat):Int)=1+(n:Int)+(k:Int) by omega] at h
 exact h
set_option maxHeartbeats 8000000 in
set_option maxRecDepth 100000 in
theorem wrap_walk (pb b:Nat) (A0:Option Addr) (n c0 nb:Nat) (A1:Option Addr) (c1:Nat) (work:Int) (ps:List S34) (mb xb B N cnt:Nat) (M:Nat→Nat→Int) (adj:Nat→List Nat) (vs:Nat→Value) (w:World) (i:Nat)
  (hp:ProbAt pb b A0 n c0 (.pointer (some ⟨nb,0,none⟩)) A1 ps.length c1 work w) (hc:Kd.C k34 w A1 ps.length ps) (hn:NetAt nb mb xb B N cnt M adj vs w) (hi:i<ps.length) (hn32:n≤32) (hm:ps.length≤64)
  (hsp:∀ s,s ∈ ps→0≤s.f0∧s.f0<s.f1∧s.f1≤1000) (hws:∀ x,x ∈ worksF M n i→0≤x) (hT:(worksF M n i).sum≤10000) :
  Calls Tryz.prog 106 #[.pointer (some ⟨pb,0,none⟩),.int .i64 i] w fun e w'=>∃ v,e=.returned v∧Kd.R kSlt 72 w' w.heap.size (fun _=>True) v (wrapF M n ps i)∧Below w.heap.size w w':=by
 obtain ⟨q0,q1,q2,q3,q4,_⟩:=hp.cells
 obtain ⟨ad1,e1,hs0,hs1⟩:=at_T34 hc (i:Int) (by omega) (by omega)
 rw [Int.toNat_natCast] at hs0 hs1
 cases e1
 have hi' : (i:Int)<(ps.length:Int):=by omega
 have i0:(0:Int)≤(i:Int):=by omega
 have hmem:rd_T34 ps (i:Int) ∈ ps:=by
  unfold rd_T34;rw [Int.toNat_natCast,List.getD_eq_getElem?_getD,List.getElem?_eq_getElem hi];exact List.getElem_mem hi
 have hspv:=hsp _ hmem
 clear hmem
 have HP:=hid hp
 have HN:=hid hn
 have HWS:=hid hws
 have HT:=hid hT
 obtain ⟨F,hF⟩:∃ F,F=wrapF M n ps i:=⟨_,rfl⟩
 rw [← hF]
 unfold wrapF at hF
 obtain ⟨sp,hspe⟩:∃ sp,sp=rd_T34 ps (i:Int):=⟨_,rfl⟩
 rw [← hspe] at hs0 hs1 hspv hF
 obtain ⟨s0,s1,s2⟩:=hspv
 have HF:=hid hF
 clear hspe hF hp hc hn hws hT hsp
 go_enter Tryz.func106,Tryz.ntmps106
 go_wp2_with (fail)
 go_quiet (fail)
 obtain ⟨W1,hW1⟩:∃ W1,W1=(w.alloc (.cells #[.int .i64 sp.f0,.int .i64 sp.f1] 209)).drewN nq:=⟨_,rfl⟩
 obtain ⟨sb,hsb⟩:∃ sb,sb=w.heap.size:=⟨_,rfl⟩
 have hb1:Below w.heap.size w W1:=by rw [hW1];exact pw_below_drewN (below_alloc (Below.refl _ _) _) nq
 have HSB:=hid (show W1.heap[sb]?=some (.cells #[.int .i64 sp.f0,.int .i64 sp.f1] 209 (0,0)) by rw [hW1,hsb];exact blk_new _ _)
 rw [← hW1,← hsb]
 have HP1:=hid (HP.out.below hb1)
 have HN1:=hid (HN.out.below hb1)
 have HB1:=Aside0.mk (show Below sb w W1 by rw [hsb];exact hb1)
 have hsz:sb≤W1.heap.size:=Nat.le_of_lt (lt_of_some HSB.out)
 have HSZ:=hid hsb
 clear hW1 hsb hb1 q0 q1 q2 q3 q4 hs0 hs1 HP HN
 have q1:W1.cell? ⟨pb,1,none⟩=some (.slice A0 n c0):=HP1.out.cells.2.1
 go_wp2_with (fail)
 clear q1
 obtain ⟨B1,hB1⟩:∃ B1,B1=W1.heap.size:=⟨_,rfl⟩
 have HBE:=hid hB1
 rw [← hB1] at hsz
 have HL0:Aside0 (Kd.R kSlt 72 W1 B1 (fun _=>True) (.slice none 0 0) []):=⟨Kd.R_nil _ _ _ _ _⟩
 have HBB0:Aside0 (Below B1 W1 W1):=⟨Below.refl _ _⟩
 have HF0:Aside0 ([]++wrapAll sp.f0 sp.f1 ((worksF M n i).drop 0) (0:Nat) 0 sp.f0=F):=⟨HF.out.symm⟩
 clear hB1
 go_loopg [5,7,8,27] n (fun kq v5 v7 v8 v27 w'=>∃ (k:Nat) (L:List Slt) (bn pl:Int),v7=.int .i64 bn∧v8=.int .i64 pl∧v27=.int .i64 k∧k+kq=n∧0≤bn∧sp.f0≤pl∧pl<sp.f1∧Aside0 (bn+((worksF M n i).drop k).sum≤10000)∧Aside0 ((L.length:Int)+((worksF M n i).drop k).sum≤10000) ∧
  Aside0 (L++wrapAll sp.f0 sp.f1 ((worksF M n i).drop k) k bn pl=F)∧Aside0 (Kd.R kSlt 72 w' B1 (fun _=>True) v5 L)∧Aside0 (Below B1 W1 w'))
 case atStart=>exact ⟨0,[],0,sp.f0,rfl,rfl,rfl,by omega,by omega,by omega,by omega,⟨by have:=HT.out;simpa using this⟩,⟨by have:=HT.out;simpa using this⟩,HF0,HL0,HBB0⟩
 case round =>
  clear HL0 HBB0 HF0
  obtain ⟨k,L,bn,pl,rfl,rfl,rfl,hk,hbn,hpl0,hpl1,HS1,HS2,HFF,HL,HBW⟩:=hrel
  by_cases hlt:k<n
  ·have d2:decide ((k:Int)<(n:Int))=true:=decide_eq_true (by omega)
   have d2n:decide (k<n)=true:=decide_eq_true hlt
   have HLT:=hid hlt
   have hwd:=worksF_drop M n i k hlt
   have hx0:0≤M (1+n+i) (1+k):=HWS.out _ (List.mem_of_mem_drop (by rw [hwd];exact List.mem_cons_self))
   have hrest:0≤((worksF M n i).drop (k+1)).sum:=sum_nn _ (fun x hx=>HWS.out x (List.mem_of_mem_drop hx))
   have hs1:=HS1.out
   have hs2:=HS2.out
   have hff:=HFF.out
   rw [hwd] at hs1 hs2 hff
   rw [List.sum_cons] at hs1 hs2
   unfold wrapAll at hff
   rw [← List.append_assoc] at hff
   obtain ⟨R1,hR1⟩:∃ R1,R1=((worksF M n i).drop (k+1)).sum:=⟨_,rfl⟩
   rw [← hR1] at hs1 hs2 hrest
   have HR1:=hid hR1
   have HP2:=hid (HP1.out.below (by rw [← HBE.out];exact HBW.out))
   have HN2:=hid (HN1.out.below (by rw [← HBE.out];exact HBW.out))
   have hb2:=HBW.out
   have hlook:=HN2.out.room.lookN (u:=1+n+i) (v:=1+k) (by omega) (by omega)
   rw [show ((1+n+i:Nat):Int)=1+(n:Int)+(i:Int) by omega,show ((1+k:Nat):Int)=1+(k:Int) by omega] at hlook
   have q2:wr.cell? ⟨pb,2,none⟩=some (.pointer (some ⟨nb,0,none⟩)):=HP2.out.cells.2.2.1
   have q0:wr.cell? ⟨nb,0,none⟩=some (.map (some mb)):=HN2.out.cells.1
   obtain ⟨x,hx⟩:∃ x,x=M (1+n+i) (1+k):=⟨_,rfl⟩
   rw [← hx] at hx0 hs1 hs2 hff hlook
   clear hx hlt hwd hR1 hb2
   have HFF2:=hid hff
   clear hff
   go_wp2_with (fail)
   go_quiet (first|(go_at_call 103;refine Calls.quiet_of_same (part_walkI pb b _ n c0 _ _ ps.length c1 _ i _ (HP2.out.below (pw_below_drewN (Below.refl _ _) _)) (by omega) (by omega)))|(go_at_call 102;refine Calls.quiet_of_same (job_walkI pb k _ (by omega))))
   obtain ⟨W4,hW4⟩:∃ W4,W4=wr.drewN nq:=⟨_,rfl⟩
   have HBW4:=Aside0.mk (show Below B1 W1 W4 by rw [hW4];exact pw_below_drewN HBW.out nq)
   have HL4:=Aside0.mk (show Kd.R kSlt 72 W4 B1 (fun _=>True) u5 L by rw [hW4];exact Kd.R_drewN HL.out nq)
   rw [← hW4]
   clear hW4 HBW HL HN2 HP2 hlook q0 q2 HFF HS1 HS2
   have HFF3:Aside0 (L++(wrapW (k:Int) sp.f0 sp.f1 x bn pl).1++wrapAll sp.f0 sp.f1 ((worksF M n i).drop (k+1)) ((k:Int)+1) (wrapW (k:Int) sp.f0 sp.f1 x bn pl).2.1 (wrapW (k:Int) sp.f0 sp.f1 x bn pl).2.2=F):=⟨HFF2.out⟩
   clear HFF2
   have HSC:=hid (show ∀ w',Below B1 W1 w'→w'.cell? ⟨sb,0,none⟩=some (.int .i64 sp.f0)∧w'.cell? ⟨sb,1,none⟩=some (.int .i64 sp.f1) from fun w' hw=>⟨(hw.cell (by have:=lt_of_some HSB.out;rw [HBE.out];exact this)).trans (by simp [World.cell?,HSB.out]),(hw.cell (by have:=lt_of_some HSB.out;rw [HBE.out];exact this)).trans (by simp [World.cell?,HSB.out])⟩)
   go_wp2_with (fail)
   go_loopg [5,7,8,10] x.toNat (fun kq v5 v7 v8 v10 w'=>∃ (L2:List Slt) (bn2 pl2 x2:Int),v7=.int .i64 bn2∧v8=.int .i64 pl2∧v10=.int .i64 x2∧0≤x2∧x2.toNat≤kq∧0≤bn2∧sp.f0≤pl2∧pl2<sp.f1∧bn2+(x2+R1)≤10000∧Aside0 ((L2.length:Int)+(x2+R1)≤10000) ∧
    Aside0 (L2++(wrapW (k:Int) sp.f0 sp.f1 x2 bn2 pl2).1++wrapAll sp.f0 sp.f1 ((worksF M n i).drop (k+1)) ((k:Int)+1) (wrapW (k:Int) sp.f0 sp.f1 x2 bn2 pl2).2.1 (wrapW (k:Int) sp.f0 sp.f1 x2 bn2 pl2).2.2=F)∧Aside0 (Kd.R kSlt 72 w' B1 (fun _=>True) v5 L2)∧Aside0 (Below B1 W1 w'))
   case atStart=>exact ⟨L,bn,pl,x,rfl,rfl,rfl,hx0,Nat.le_refl _,hbn,hpl0,hpl1,hs1,⟨hs2⟩,HFF3,HL4,HBW4⟩
   case round =>
    clear HFF3 HL4 HBW4 hs1 hs2 hx0
    obtain ⟨L2,bn2,pl2,x2,rfl,rfl,rfl,hx2,hk2,hb2,hp0,hp1,hs1,HLL,HFF,HL2,HBW2⟩:=hrel
    obtain ⟨Ao,co,eO⟩:=Kd.R_slice HL2.out
    obtain ⟨L1,hL1⟩:∃ L1,L1=L2.length:=⟨_,rfl⟩
    rw [← hL1] at eO
    subst eO
    have HL1:=hid hL1
    clear hL1
    obtain ⟨c0_,c1_⟩:=HSC.out wr HBW2.out
    by_cases hx3:0<x2
    ·have dgt:decide (0<x2)=true:=decide_eq_true hx3
     by_cases hc:sp.f1-pl2<x2
     ·have HNN2:=hid (show sp.f1-pl2=if sp.f1-pl2<x2 then sp.f1-pl2 else x2 by rw [if_pos hc])
      have HPE:=hid (show pl2+(sp.f1-pl2)=sp.f1 by omega)
      have t2:(pl2+(sp.f1-pl2) == sp.f1)=true:=beq_iff_eq.2 HPE.out
      go_wp2_with ((with_reducible refine gate_builtin (b:=.append) (xs:=#[.tmp 53,.tmp 61]) rfl ?_);at_builtin;refine Kd.R_append kSlt (w0:=W1) B1 rfl (.tmp 53) (.tmp 61) 50 72 (.agg #[.int .i64 0,.int .i64 0,.int .i64 0,.int .i64 0]) 32 rfl Tryz.underlying50 infoSlt rfl (by decide) (by omega) (.slice Ao L1 co) L2 ⟨(k:Int),bn2,pl2,pl2+(sp.f1-pl2)⟩ [.int .i64 (k:Int),.int .i64 bn2,.int .i64 pl2,.int .i64 (pl2+(sp.f1-pl2))] (fun _=>True) (fun _=>False) rfl (by first|(go_simp;done)|(go_simp;rfl)) ?aP (fun _ hk=>hk.elim) (fun _ _=>trivial) HL2.out HBW2.out (by rw [HBE.out];exact HBW2.out.size) ?aL ?_;(case aP=>exact kSlt_mkM _ _ _ ⟨(k:Int),bn2,pl2,pl2+(sp.f1-pl2)⟩);(case aL=>have:=HLL.out;omega);intro v6 w6 ho hb hg hat;have HO6:=Aside0.mk ho;have HB6:=Aside0.mk hb;obtain ⟨c2_,c3_⟩:=HSC.out w6 HB6.out;clear ho hb hg hat)
      go_quiet (fail)
      obtain ⟨W7,hW7⟩:∃ W7,W7=w6.drewN nq:=⟨_,rfl⟩
      have HO7:=Aside0.mk (show Kd.R kSlt 72 W7 B1 (fun _=>True) v6 (L2++[⟨(k:Int),bn2,pl2,pl2+(sp.f1-pl2)⟩]) by rw [hW7];exact Kd.R_drewN HO6.out nq)
      have HB7:=Aside0.mk (show Below B1 W1 W7 by rw [hW7];exact pw_below_drewN HB6.out nq)
      rw [← hW7]
      clear hW7 HO6 HB6
      go_wp2_with (fail)
      have hff:=HFF.out
      rw [wrapW_step (k:Int) sp.f0 sp.f1 x2 bn2 pl2 (sp.f1-pl2) s1 hp1 hx3 HNN2.out,if_pos HPE.out,if_pos HPE.out] at hff
      have HFF4:Aside0 ((L2++[⟨(k:Int),bn2,pl2,pl2+(sp.f1-pl2)⟩])++(wrapW (k:Int) sp.f0 sp.f1 (x2-(sp.f1-pl2)) (bn2+1) (sp.f0)).1++wrapAll sp.f0 sp.f1 ((worksF M n i).drop (k+1)) ((k:Int)+1) (wrapW (k:Int) sp.f0 sp.f1 (x2-(sp.f1-pl2)) (bn2+1) (sp.f0)).2.1 (wrapW (k:Int) sp.f0 sp.f1 (x2-(sp.f1-pl2)) (bn2+1) (sp.f0)).2.2=F):=⟨by rw [← hff];simp⟩
      clear hff
      go_roundg (x2-(sp.f1-pl2)).toNat
      case rel=>exact ⟨_,bn2+1,sp.f0,x2-(sp.f1-pl2),rfl,rfl,rfl,by omega,Nat.le_refl _,by omega,by omega,by omega,by omega,⟨by rw [List.length_append];have:=HLL.out;simp;omega⟩,HFF4,HO7,HB7⟩
      case measure=>omega
     ·have HNN2:=hid (show x2=if sp.f1-pl2<x2 then sp.f1-pl2 else x2 by rw [if_neg hc])
      by_cases hpe:pl2+x2=sp.f1
      ·have t2:(pl2+x2 == sp.f1)=true:=beq_iff_eq.2 hpe
       have HPE:=hid hpe
       clear hpe
       go_wp2_with ((with_reducible refine gate_builtin (b:=.append) (xs:=#[.tmp 53,.tmp 61]) rfl ?_);at_builtin;refine Kd.R_append kSlt (w0:=W1) B1 rfl (.tmp 53) (.tmp 61) 50 72 (.agg #[.int .i64 0,.int .i64 0,.int .i64 0,.int .i64 0]) 32 rfl Tryz.underlying50 infoSlt rfl (by decide) (by omega) (.slice Ao L1 co) L2 ⟨(k:Int),bn2,pl2,pl2+x2⟩ [.int .i64 (k:Int),.int .i64 bn2,.int .i64 pl2,.int .i64 (pl2+x2)] (fun _=>True) (fun _=>False) rfl (by first|(go_simp;done)|(go_simp;rfl)) ?aP (fun _ hk=>hk.elim) (fun _ _=>trivial) HL2.out HBW2.out (by rw [HBE.out];exact HBW2.out.size) ?aL ?_;(case aP=>exact kSlt_mkM _ _ _ ⟨(k:Int),bn2,pl2,pl2+x2⟩);(case aL=>have:=HLL.out;omega);intro v6 w6 ho hb hg hat;have HO6:=Aside0.mk ho;have HB6:=Aside0.mk hb;obtain ⟨c2_,c3_⟩:=HSC.out w6 HB6.out;clear ho hb hg hat)
       go_quiet (fail)
       obtain ⟨W7,hW7⟩:∃ W7,W7=w6.drewN nq:=⟨_,rfl⟩
       have HO7:=Aside0.mk (show Kd.R kSlt 72 W7 B1 (fun _=>True) v6 (L2++[⟨(k:Int),bn2,pl2,pl2+x2⟩]) by rw [hW7];exact Kd.R_drewN HO6.out nq)
       have HB7:=Aside0.mk (show Below B1 W1 W7 by rw [hW7];exact pw_below_drewN HB6.out nq)
       rw [← hW7]
       clear hW7 HO6 HB6
       go_wp2_with (fail)
       have hff:=HFF.out
       rw [wrapW_step (k:Int) sp.f0 sp.f1 x2 bn2 pl2 x2 s1 hp1 hx3 HNN2.out,if_pos HPE.out,if_pos HPE.out,show x2-x2=0 by omega] at hff
       have HFF4:Aside0 ((L2++[⟨(k:Int),bn2,pl2,pl2+x2⟩])++(wrapW (k:Int) sp.f0 sp.f1 0 (bn2+1) (sp.f0)).1++wrapAll sp.f0 sp.f1 ((worksF M n i).drop (k+1)) ((k:Int)+1) (wrapW (k:Int) sp.f0 sp.f1 0 (bn2+1) (sp.f0)).2.1 (wrapW (k:Int) sp.f0 sp.f1 0 (bn2+1) (sp.f0)).2.2=F):=⟨by rw [← hff];simp⟩
       clear hff
       go_roundg (0:Int).toNat
       case rel=>exact ⟨_,bn2+1,sp.f0,0,rfl,rfl,rfl,by omega,Nat.le_refl _,by omega,by omega,by omega,by omega,⟨by rw [List.length_append];have:=HLL.out;simp;omega⟩,HFF4,HO7,HB7⟩
       case measure=>omega
      ·have t2:(pl2+x2 == sp.f1)=false:=by rw [beq_eq_false_iff_ne];exact hpe
       have HPE:=hid hpe
       clear hpe
       go_wp2_with ((with_reducible refine gate_builtin (b:=.append) (xs:=#[.tmp 53,.tmp 61]) rfl ?_);at_builtin;refine Kd.R_append kSlt (w0:=W1) B1 rfl (.tmp 53) (.tmp 61) 50 72 (.agg #[.int .i64 0,.int .i64 0,.int .i64 0,.int .i64 0]) 32 rfl Tryz.underlying50 infoSlt rfl (by decide) (by omega) (.slice Ao L1 co) L2 ⟨(k:Int),bn2,pl2,pl2+x2⟩ [.int .i64 (k:Int),.int .i64 bn2,.int .i64 pl2,.int .i64 (pl2+x2)] (fun _=>True) (fun _=>False) rfl (by first|(go_simp;done)|(go_simp;rfl)) ?aP (fun _ hk=>hk.elim) (fun _ _=>trivial) HL2.out HBW2.out (by rw [HBE.out];exact HBW2.out.size) ?aL ?_;(case aP=>exact kSlt_mkM _ _ _ ⟨(k:Int),bn2,pl2,pl2+x2⟩);(case aL=>have:=HLL.out;omega);intro v6 w6 ho hb hg hat;have HO6:=Aside0.mk ho;have HB6:=Aside0.mk hb;obtain ⟨c2_,c3_⟩:=HSC.out w6 HB6.out;clear ho hb hg hat)
       have hff:=HFF.out
       rw [wrapW_step (k:Int) sp.f0 sp.f1 x2 bn2 pl2 x2 s1 hp1 hx3 HNN2.out,if_neg HPE.out,if_neg HPE.out,show x2-x2=0 by omega] at hff
       have HFF4:Aside0 ((L2++[⟨(k:Int),bn2,pl2,pl2+x2⟩])++(wrapW (k:Int) sp.f0 sp.f1 0 (bn2) (pl2+x2)).1++wrapAll sp.f0 sp.f1 ((worksF M n i).drop (k+1)) ((k:Int)+1) (wrapW (k:Int) sp.f0 sp.f1 0 (bn2) (pl2+x2)).2.1 (wrapW (k:Int) sp.f0 sp.f1 0 (bn2) (pl2+x2)).2.2=F):=⟨by rw [← hff];simp⟩
       clear hff
       go_roundg (0:Int).toNat
       case rel=>exact ⟨_,bn2,pl2+x2,0,rfl,rfl,rfl,by omega,Nat.le_refl _,by omega,by omega,by have:=HPE.out;omega,by omega,⟨by rw [List.length_append];have:=HLL.out;simp;omega⟩,HFF4,HO6,HB6⟩
       case measure=>omega
    ·have dgt:decide (0<x2)=false:=decide_eq_false hx3
     have hff:=HFF.out
     rw [wrapW_done _ _ _ _ _ _ hx3,List.append_nil] at hff
     have HFF4:Aside0 (L2++wrapAll sp.f0 sp.f1 ((worksF M n i).drop (k+1)) ((k+1:Nat):Int) bn2 pl2=F):=⟨hff⟩
     have HS5:Aside0 (bn2+((worksF M n i).drop (k+1)).sum≤10000):=⟨by rw [← HR1.out];omega⟩
     have HS6:Aside0 ((L2.length:Int)+((worksF M n i).drop (k+1)).sum≤10000):=⟨by rw [← HR1.out];have:=HLL.out;omega⟩
     have HL5:Aside0 (Kd.R kSlt 72 wr B1 (fun _=>True) (.slice Ao L1 co) L2):=⟨HL2.out⟩
     clear hff
     go_wp2_with (fail)
     go_roundg (n-(k+1))
     case rel=>exact ⟨k+1,L2,bn2,pl2,rfl,rfl,by go_num,by have:=HLT.out;omega,hb2,hp0,hp1,HS5,HS6,HFF4,HL5,HBW2⟩
     case measure=>have:=HLT.out;omega
  ·have d2:decide ((k:Int)<(n:Int))=false:=decide_eq_false (by omega)
   have hff:=HFF.out
   rw [List.drop_eq_nil_of_le (by rw [worksF_length];omega)] at hff
   have hff2:L=F:=by rw [← hff];unfold wrapAll;rw [List.append_nil]
   subst hff2
   have HLZ:=Aside0.mk HL.out
   clear hff HL HFF
   go_wp2_with (fail)
   go_ret
   exact ⟨_,rfl,Kd.R_lower HLZ.out (by rw [← HSZ.out];exact hsz),by rw [← HSZ.out];exact HB1.out.trans ((HBW.out).mono hsz)⟩
end Go.Proofs.YtiioklboaookiaaGreatDoor.Q
namespace Go.Proofs.YtiioklboaookiaaGreatDoor.Q
open Go.RowKit Go.Proofs.YtiioklboaookiaaGreatDoorW.PrintWords Go.Proofs.YtiioklboaookiaaGreatDoorW.PrintLast Go.Proofs.YtiioklboaookiaaGreatDoor.Hand Go.Proofs.YtiioklboaookiaaGreatDoorW.PrintMore
attribute [local go_sem] max2_int min2_int max_two min_two max_three min_three max_four min_four
set_option linter.unusedVariables false
set_option linter.unusedSimpArgs false
def PermAt (g cap base N:Nat) (L:List Slt) (w:World):Prop:=∃ L',L'.Perm L∧L'.length=N∧Kd.R kSlt 72 w base (fun _=>True) (.slice (some ⟨g,0,none⟩) N cap) L'
theorem swap_list (L:List Slt) (p q:Nat) (hp:p<L.length) (hq:q<L.length):((L.set p L[q]).set q L[p]).Perm L:=by
 have h:=Array.swap_perm (xs:=L.toArray) (i:=p) (j:=q) (by simpa using hp) (by simpa using hq)
 have e:(L.toArray.swap p q (by simpa using hp) (by simpa using hq)).toList=(L.set p L[q]).set q L[p]:=by
  simp [Array.swap]
 have:=(Array.perm_iff_toList_perm.1 h)
 rw [e] at this
 simpa using this
def Two (g p q:Nat) (x y:Slt) (w:World):Prop:=(w.cell? ⟨g,p*4,none⟩=some (.int .i64 x.j)∧w.cell? ⟨g,p*4+1,none⟩=some (.int .i64 x.b)∧w.cell? ⟨g,p*4+2,none⟩=some (.int .i64 x.f)∧w.cell? ⟨g,p*4+3,none⟩=some (.int .i64 x.t)) ∧
 (w.cell? ⟨g,q*4,none⟩=some (.int .i64 y.j)∧w.cell? ⟨g,q*4+1,none⟩=some (.int .i64 y.b)∧w.cell? ⟨g,q*4+2,none⟩=some (.int .i64 y.f)∧w.cell? ⟨g,q*4+3,none⟩=some (.int .i64 y.t))
theorem elem_cells {g cap base N:Nat} {L' : List Slt} {w:World} (h:Kd.R kSlt 72 w base (fun _=>True) (.slice (some ⟨g,0,none⟩) N cap) L') (p:Nat) (hp:p<N) :
  w.cell? ⟨g,p*4,none⟩=some (.int .i64 (rd_Slt L' (p:Int)).j)∧w.cell? ⟨g,p*4+1,none⟩=some (.int .i64 (rd_Slt L' (p:Int)).b)∧w.cell? ⟨g,p*4+2,none⟩=some (.int .i64 (rd_Slt L' (p:Int)).f)∧w.cell? ⟨g,p*4+3,none⟩=some (.int .i64 (rd_Slt L' (p:Int)).t):=by
 obtain ⟨c,hcl,hM,hcc,_⟩:=Kd.R_elem h zSlt (p:Int) (by omega) (by omega)
 rw [Int.toNat_natCast] at hcc hM
 obtain rfl:=kSlt_openM hM
 have hsz:kSlt.sz=4:=rfl
 rw [hsz] at hcc
 have e:rd_Slt L' (p:Int)=L'.getD p zSlt:=by unfold rd_Slt;rw [Int.toNat_natCast]
 rw [e]
 exact ⟨hcc 0 _ rfl,hcc 1 _ rfl,hcc 2 _ rfl,hcc 3 _ rfl⟩
theorem put_elem {g cap base N:Nat} {L' : List Slt} {w:World} (h:Kd.R kSlt 72 w base (fun _=>True) (.slice (some ⟨g,0,none⟩) N cap) L') (p:Nat) (hp:p<N) (y:Slt) :
  Kd.R kSlt 72 (((((w.setCell ⟨g,p*4,none⟩ (.int .i64 y.j)).setCell ⟨g,p*4+1,none⟩ (.int .i64 y.b)).setCell ⟨g,p*4+2,none⟩ (.int .i64 y.f)).setCell ⟨g,p*4+3,none⟩ (.int .i64 y.t))) base (fun _=>True) (.slice (some ⟨g,0,none⟩) N cap) (L'.set p y) ∧
   w.grownBy (((((w.setCell ⟨g,p*4,none⟩ (.int .i64 y.j)).setCell ⟨g,p*4+1,none⟩ (.int .i64 y.b)).setCell ⟨g,p*4+2,none⟩ (.int .i64 y.f)).setCell ⟨g,p*4+3,none⟩ (.int .i64 y.t))) (some g):=by
 obtain ⟨c,hcl,hM,hcc,_⟩:=Kd.R_elem h zSlt (p:Int) (by omega) (by omega)
 have hsz:kSlt.sz=4:=rfl
 have hs:=Kd.R_seg (seg:=[.int .i64 y.j,.int .i64 y.b,.int .i64 y.f,.int .i64 y.t]) (j:=0) (x':=y) (okp:=fun _=>False) h (p:Int) (by omega) (by omega) hcl hcc (by rw [hsz];show 0+4≤4;omega) (by
  have hd:c.drop (0 + [Value.int .i64 y.j,.int .i64 y.b,.int .i64 y.f,.int .i64 y.t].length)=[]:=List.drop_eq_nil_of_le (by rw [hcl,hsz];show 4≤0+4;omega)
  rw [hd,List.take_zero,List.nil_append,List.append_nil]
  exact kSlt_mkM _ _ _ y) (fun _ hk=>hk.elim)
 rw [Int.toNat_natCast] at hs
 exact hs
theorem grown_drew {w w' : World} {row:Option Nat} (h:w.grownBy w' row):w.grownBy w'.drew row:=⟨h.os,h.tape,h.output,h.size,h.block⟩
theorem PermAt.swap {g cap base N:Nat} {L:List Slt} {w:World} {L' : List Slt} (h1:L'.Perm L) (h2:L'.length=N) (h3:Kd.R kSlt 72 w base (fun _=>True) (.slice (some ⟨g,0,none⟩) N cap) L') (p q:Nat) (hp:p<N) (hq:q<N) {w2:World}
  (hw:w2=(((((((((w.setCell ⟨g,p*4,none⟩ (.int .i64 (rd_Slt L' (q:Int)).j)).setCell ⟨g,p*4+1,none⟩ (.int .i64 (rd_Slt L' (q:Int)).b)).setCell ⟨g,p*4+2,none⟩ (.int .i64 (rd_Slt L' (q:Int)).f)).setCell ⟨g,p*4+3,none⟩ (.int .i64 (rd_Slt L' (q:Int)).t))).setCell ⟨g,q*4,none⟩ (.int .i64 (rd_Slt L' (p:Int)).j)).setCell ⟨g,q*4+1,none⟩ (.int .i64 (rd_Slt L' (p:Int)).b)).setCell ⟨g,q*4+2,none⟩ (.int .i64 (rd_Slt L' (p:Int)).f)).setCell ⟨g,q*4+3,none⟩ (.int .i64 (rd_Slt L' (p:Int)).t))) :
  PermAt g cap base N L w2∧w.grownBy w2 (some g):=by
 obtain ⟨r1,g1⟩:=put_elem h3 p hp (rd_Slt L' (q:Int))
 obtain ⟨r2,g2⟩:=put_elem r1 q hq (rd_Slt L' (p:Int))
 have e:∀ i (hi:i<L'.length),rd_Slt L' (i:Int)=L'[i]:=fun i hi=>by
  unfold rd_Slt;rw [Int.toNat_natCast,List.getD_eq_getElem?_getD,List.getElem?_eq_getElem hi];rfl
 subst hw
 refine ⟨⟨_,?_,?_,r2⟩,g1.trans g2⟩
 ·rw [e p (by omega),e q (by omega)]
  exact (swap_list L' p q (by omega) (by omega)).trans h1
 ·rw [List.length_set,List.length_set,h2]
set_option maxHeartbeats 8000000 in
set_option maxRecDepth 100000 in
theorem swapR_walk (fn:Value) (g cap base N:Nat) (L:List Slt) (w:World) (a b n:Nat) (h:PermAt g cap base N L w) (ha:a+n≤N) (hb:b+n≤N) (hN:N≤100000) :
  Calls Tryz.prog 187 #[.slice (some ⟨g,0,none⟩) N cap,.int .i64 a,.int .i64 b,.int .i64 n,fn] w fun e w'=>e=.returned (.tuple #[])∧PermAt g cap base N L w'∧w.grownBy w' (some g):=by
 have HP0:=hid h
 have HG0:Aside0 (w.grownBy w (some g)):=⟨World.grownBy.refl w _⟩
 clear h
 go_enter Tryz.func187,Tryz.ntmps187
 go_wp2_with (fail)
 go_loopg [10] n (fun kq v10 w'=>∃ (i:Nat),v10=.int .i64 i∧i+kq=n∧Hid (PermAt g cap base N L w')∧Aside0 (w.grownBy w' (some g)))
 case atStart=>exact ⟨0,rfl,by omega,HP0,HG0⟩
 case round =>
  clear HP0 HG0
  obtain ⟨i,rfl,hi,HP,HG⟩:=hrel
  by_cases hlt:i<n
  ·have d1:decide ((i:Int)<(n:Int))=true:=decide_eq_true (by omega)
   obtain ⟨L',h1,h2,h3⟩:=HP.out
   have HR:=Aside0.mk h3
   have HPM:=hid h1
   have HLN:=hid h2
   obtain ⟨p,hp⟩:∃ p,p=a+i:=⟨_,rfl⟩
   obtain ⟨q,hq⟩:∃ q,q=b+i:=⟨_,rfl⟩
   have hpN:p<N:=by omega
   have hqN:q<N:=by omega
   have hpi:(a:Int)+(i:Int)=(p:Int):=by omega
   have hqi:(b:Int)+(i:Int)=(q:Int):=by omega
   have p0:(0:Int)≤(p:Int):=by omega
   have q0:(0:Int)≤(q:Int):=by omega
   have p1:(p:Int)<(N:Int):=by omega
   have q1:(q:Int)<(N:Int):=by omega
   have wp:wrap64 (p:Int)=(p:Int):=w64_in _ (by omega) (by omega)
   have wq:wrap64 (q:Int)=(q:Int):=w64_in _ (by clear wp;omega) (by clear wp;omega)
   have hx:=elem_cells h3 p hpN
   have hy:=elem_cells h3 q hqN
   obtain ⟨x,hxx⟩:∃ x,x=rd_Slt L' (p:Int):=⟨_,rfl⟩
   obtain ⟨y,hyy⟩:∃ y,y=rd_Slt L' (q:Int):=⟨_,rfl⟩
   rw [← hxx] at hx
   rw [← hyy] at hy
   have HXX:=hid hxx
   have HYY:=hid hyy
   have hfz:∀ o,wr.frozen? ⟨g,o,none⟩=false:=by
    obtain ⟨cells,hc⟩:=Kd.R_typed h3 g rfl
    exact fun o=>blk_frozen hc _
   have HS:=hid (show wr.drew.cell? ⟨g,p*4,none⟩=some (.int .i64 x.j)∧wr.drew.cell? ⟨g,p*4+1,none⟩=some (.int .i64 x.b)∧wr.drew.cell? ⟨g,p*4+2,none⟩=some (.int .i64 x.f)∧wr.drew.cell? ⟨g,p*4+3,none⟩=some (.int .i64 x.t)∧wr.drew.cell? ⟨g,q*4,none⟩=some (.int .i64 y.j)∧wr.drew.cell? ⟨g,q*4+1,none⟩=some (.int .i64 y.b)∧wr.drew.cell? ⟨g,q*4+2,none⟩=some (.int .i64 y.f)∧wr.drew.cell? ⟨g,q*4+3,none⟩=some (.int .i64 y.t) from ⟨hx.1,hx.2.1,hx.2.2.1,hx.2.2.2,hy.1,hy.2.1,hy.2.2.1,hy.2.2.2⟩)
   have HLT:=hid hlt
   obtain ⟨hx0,hx1,hx2,hx3⟩:=hx
   obtain ⟨hy0,hy1,hy2,hy3⟩:=hy
   clear h1 h2 h3 HP hlt hp hq hxx hyy
   go_wp2_with (fail)
   refine start_ (n:=24) (S:=fun w'=>w'.cell? ⟨g,p*4,none⟩=some (.int .i64 x.j)∧w'.cell? ⟨g,p*4+1,none⟩=some (.int .i64 x.b)∧w'.cell? ⟨g,p*4+2,none⟩=some (.int .i64 x.f)∧w'.cell? ⟨g,p*4+3,none⟩=some (.int .i64 x.t)∧w'.cell? ⟨g,q*4,none⟩=some (.int .i64 y.j)∧w'.cell? ⟨g,q*4+1,none⟩=some (.int .i64 y.b)∧w'.cell? ⟨g,q*4+2,none⟩=some (.int .i64 y.f)∧w'.cell? ⟨g,q*4+3,none⟩=some (.int .i64 y.t)) (ds:=[21,23]) #[false,false,false,false,false,false,false,false,false,false,false,false,false,false,false,false,false,false,false,false,false,false,false,false] (by kernel_rfl) rfl rfl HS.out (fun hHeld=>?_)
   refine pure_ (i:=0) (N:=some 16) (v:=?_) (a':=?_) #[true,false,false,false,false,false,false,false,false,false,false,false,false,false,false,false,false,false,false,false,false,false,false,false] rfl rfl (by kernel_rfl) (fun _ _ _ h=>h) (Or.inl ⟨by rfl,?_⟩) ?_ ?_
   rotate_left
   ·intro w'
    go_simp
    with_reducible rfl
   rotate_left
   ·simp only [Act.put,sp__,i64_w,i32_w]
    rfl
   refine pure_ (i:=1) (N:=some 17) (v:=?_) (a':=?_) #[true,true,false,false,false,false,false,false,false,false,false,false,false,false,false,false,false,false,false,false,false,false,false,false] rfl rfl (by kernel_rfl) (fun _ _ _ h=>h) (Or.inl ⟨by rfl,?_⟩) ?_ ?_
   rotate_left
   ·intro w'
    go_simp
    with_reducible rfl
   rotate_left
   ·simp only [Act.put,sp__,i64_w,i32_w]
    rfl
   refine pure_ (i:=2) (N:=some 18) (v:=?_) (a':=?_) #[true,true,true,false,false,false,false,false,false,false,false,false,false,false,false,false,false,false,false,false,false,false,false,false] rfl rfl (by kernel_rfl) (fun _ _ _ h=>h) (Or.inl ⟨by rfl,?_⟩) ?_ ?_
   rotate_left
   ·intro w'
    go_simp
    with_reducible rfl
   rotate_left
   ·simp only [Act.put,sp__,i64_w,i32_w]
    rfl
   refine pure_ (i:=3) (N:=some 19) (v:=?_) (a':=?_) #[true,true,true,true,false,false,false,false,false,false,false,false,false,false,false,false,false,false,false,false,false,false,false,false] rfl rfl (by kernel_rfl) (fun _ _ _ h=>h) (Or.inl ⟨by rfl,?_⟩) ?_ ?_
   rotate_left
   ·intro w'
    go_simp
    with_reducible rfl
   rotate_left
   ·simp only [Act.put,sp__,i64_w,i32_w]
    rfl
   refine pure_ (i:=4) (N:=some 20) (v:=?_) (a':=?_) #[true,true,true,true,true,false,false,false,false,false,false,false,false,false,false,false,false,false,false,false,false,false,false,false] rfl rfl (by kernel_rfl) (fun _ _ _ h=>h) (Or.inl ⟨by rfl,?_⟩) ?_ ?_
   rotate_left
   ·intro w'
    go_simp
    with_reducible rfl
   rotate_left
   ·simp only [Act.put,sp__,i64_w,i32_w]
    rfl
   refine pure_ (i:=5) (N:=some 21) (v:=?_) (a':=?_) #[true,true,true,true,true,true,false,false,false,false,false,false,false,false,false,false,false,false,false,false,false,false,false,false] rfl rfl (by kernel_rfl) (fun _ _ _ h=>h) (Or.inl ⟨by rfl,?_⟩) ?_ ?_
   rotate_left
   ·intro w'
    go_simp
    with_reducible rfl
   rotate_left
   ·simp only [Act.put,sp__,i64_w,i32_w]
    rfl
   refine pure_ (i:=6) (N:=some 22) (v:=?_) (a':=?_) #[true,true,true,true,true,true,true,false,false,false,false,false,false,false,false,false,false,false,false,false,false,false,false,false] rfl rfl (by kernel_rfl) (fun _ _ _ h=>h) (Or.inl ⟨by rfl,?_⟩) ?_ ?_
   rotate_left
   ·intro w'
    go_simp
    with_reducible rfl
   rotate_left
   ·simp only [Act.put,sp__,i64_w,i32_w]
    rfl
   refine pure_ (i:=7) (N:=some 23) (v:=?_) (a':=?_) #[true,true,true,true,true,true,true,true,false,false,false,false,false,false,false,false,false,false,false,false,false,false,false,false] rfl rfl (by kernel_rfl) (fun _ _ _ h=>h) (Or.inl ⟨by rfl,?_⟩) ?_ ?_
   rotate_left
   ·intro w'
    go_simp
    with_reducible rfl
   rotate_left
   ·simp only [Act.put,sp__,i64_w,i32_w]
    rfl
   refine pure_ (i:=8) (N:=some 24) (v:=?_) (a':=?_) #[true,true,true,true,true,true,true,true,true,false,false,false,false,false,false,false,false,false,false,false,false,false,false,false] rfl rfl (by kernel_rfl) (fun _ _ _ h=>h) (Or.inl ⟨by rfl,?_⟩) ?_ ?_
   rotate_left
   ·intro w'
    go_simp
    with_reducible rfl
   rotate_left
   ·simp only [Act.put,sp__,i64_w,i32_w]
    rfl
   refine pure_ (i:=9) (N:=some 25) (v:=?_) (a':=?_) #[true,true,true,true,true,true,true,true,true,true,false,false,false,false,false,false,false,false,false,false,false,false,false,false] rfl rfl (by kernel_rfl) (fun _ _ _ h=>h) (Or.inl ⟨by rfl,?_⟩) ?_ ?_
   rotate_left
   ·intro w'
    go_simp
    with_reducible rfl
   rotate_left
   ·simp only [Act.put,sp__,i64_w,i32_w]
    rfl
   refine pure_ (i:=10) (N:=some 26) (v:=?_) (a':=?_) #[true,true,true,true,true,true,true,true,true,true,true,false,false,false,false,false,false,false,false,false,false,false,false,false] rfl rfl (by kernel_rfl) (fun _ _ _ h=>h) (Or.inl ⟨by rfl,?_⟩) ?_ ?_
   rotate_left
   ·intro w'
    go_simp
    with_reducible rfl
   rotate_left
   ·simp only [Act.put,sp__,i64_w,i32_w]
    rfl
   refine pure_ (i:=11) (N:=some 27) (v:=?_) (a':=?_) #[true,true,true,true,true,true,true,true,true,true,true,true,false,false,false,false,false,false,false,false,false,false,false,false] rfl rfl (by kernel_rfl) (fun _ _ _ h=>h) (Or.inl ⟨by rfl,?_⟩) ?_ ?_
   rotate_left
   ·intro w'
    go_simp
    with_reducible rfl
   rotate_left
   ·simp only [Act.put,sp__,i64_w,i32_w]
    rfl
   refine pure_ (i:=12) (N:=some 28) (v:=?_) (a':=?_) #[true,true,true,true,true,true,true,true,true,true,true,true,true,false,false,false,false,false,false,false,false,false,false,false] rfl rfl (by kernel_rfl) (fun _ _ _ h=>h) (Or.inl ⟨by rfl,?_⟩) ?_ ?_
   rotate_left
   ·intro w'
    go_simp
    with_reducible rfl
   rotate_left
   ·simp only [Act.put,sp__,i64_w,i32_w]
    rfl
   refine take_ (i:=13) (N:=some 29) (v:=?_) (a':=?_) #[true,true,true,true,true,true,true,true,true,true,true,true,true,true,false,false,false,false,false,false,false,false,false,false] rfl rfl (by kernel_rfl) (fun _ _ _ h=>h) (Or.inl ⟨by rfl,?_⟩) hHeld ?_ ?_
   rotate_left
   ·rintro w' ⟨s0,s1,s2,s3,s4,s5,s6,s7⟩
    go_simp
    with_reducible rfl
   rotate_left
   ·simp only [Act.put,sp__,i64_w,i32_w]
    rfl
   refine pure_ (i:=14) (N:=some 30) (v:=?_) (a':=?_) #[true,true,true,true,true,true,true,true,true,true,true,true,true,true,true,false,false,false,false,false,false,false,false,false] rfl rfl (by kernel_rfl) (fun _ _ _ h=>h) (Or.inl ⟨by rfl,?_⟩) ?_ ?_
   rotate_left
   ·intro w'
    go_simp
    with_reducible rfl
   rotate_left
   ·simp only [Act.put,sp__,i64_w,i32_w]
    rfl
   refine pure_ (i:=15) (N:=some 31) (v:=?_) (a':=?_) #[true,true,true,true,true,true,true,true,true,true,true,true,true,true,true,true,false,false,false,false,false,false,false,false] rfl rfl (by kernel_rfl) (fun _ _ _ h=>h) (Or.inl ⟨by rfl,?_⟩) ?_ ?_
   rotate_left
   ·intro w'
    go_simp
    with_reducible rfl
   rotate_left
   ·simp only [Act.put,sp__,i64_w,i32_w]
    rfl
   refine pure_ (i:=16) (N:=some 32) (v:=?_) (a':=?_) #[true,true,true,true,true,true,true,true,true,true,true,true,true,true,true,true,true,false,false,false,false,false,false,false] rfl rfl (by kernel_rfl) (fun _ _ _ h=>h) (Or.inl ⟨by rfl,?_⟩) ?_ ?_
   rotate_left
   ·intro w'
    go_simp
    with_reducible rfl
   rotate_left
   ·simp only [Act.put,sp__,i64_w,i32_w]
    rfl
   refine pure_ (i:=17) (N:=some 33) (v:=?_) (a':=?_) #[true,true,true,true,true,true,true,true,true,true,true,true,true,true,true,true,true,true,false,false,false,false,false,false] rfl rfl (by kernel_rfl) (fun _ _ _ h=>h) (Or.inl ⟨by rfl,?_⟩) ?_ ?_
   rotate_left
   ·intro w'
    go_simp
    with_reducible rfl
   rotate_left
   ·simp only [Act.put,sp__,i64_w,i32_w]
    rfl
   refine pure_ (i:=18) (N:=some 34) (v:=?_) (a':=?_) #[true,true,true,true,true,true,true,true,true,true,true,true,true,true,true,true,true,true,true,false,false,false,false,false] rfl rfl (by kernel_rfl) (fun _ _ _ h=>h) (Or.inl ⟨by rfl,?_⟩) ?_ ?_
   rotate_left
   ·intro w'
    go_simp
    with_reducible rfl
   rotate_left
   ·simp only [Act.put,sp__,i64_w,i32_w]
    rfl
   refine take_ (i:=19) (N:=some 35) (v:=?_) (a':=?_) #[true,true,true,true,true,true,true,true,true,true,true,true,true,true,true,true,true,true,true,true,false,false,false,false] rfl rfl (by kernel_rfl) (fun _ _ _ h=>h) (Or.inl ⟨by rfl,?_⟩) hHeld ?_ ?_
   rotate_left
   ·rintro w' ⟨s0,s1,s2,s3,s4,s5,s6,s7⟩
    go_simp
    with_reducible rfl
   rotate_left
   ·simp only [Act.put,sp__,i64_w,i32_w]
    rfl
   refine pure_ (i:=20) (N:=some 36) (v:=?_) (a':=?_) #[true,true,true,true,true,true,true,true,true,true,true,true,true,true,true,true,true,true,true,true,true,false,false,false] rfl rfl (by kernel_rfl) (fun _ _ _ h=>h) (Or.inl ⟨by rfl,?_⟩) ?_ ?_
   rotate_left
   ·intro w'
    go_simp
    with_reducible rfl
   rotate_left
   ·simp only [Act.put,sp__,i64_w,i32_w]
    rfl
   refine last_ (i:=21) (N:=none) #[true,true,true,true,true,true,true,true,true,true,true,true,true,true,true,true,true,true,true,true,true,true,false,false] rfl rfl (by kernel_rfl) (by decide) (fun K hK=>?_)
   refine skip_ (w1:=?_) (by rfl) rfl ?_ ?_
   rotate_left
   ·go_simp
    rfl
   refine hK.out _ _ ?_
   clear hK K
   obtain ⟨r1,g1⟩:=put_elem HR.out p hpN y
   have r1d:=Kd.R_drew r1
   obtain ⟨z0,z1,z2,z3⟩:=elem_cells r1d q hqN
   have fz1:∀ o,(((((wr.setCell ⟨g,p*4,none⟩ (.int .i64 y.j)).setCell ⟨g,p*4+1,none⟩ (.int .i64 y.b)).setCell ⟨g,p*4+2,none⟩ (.int .i64 y.f)).setCell ⟨g,p*4+3,none⟩ (.int .i64 y.t)).drew).frozen? ⟨g,o,none⟩=false:=(by obtain ⟨cells,hc⟩:=Kd.R_typed r1d g rfl;exact fun o=>blk_frozen hc _)
   have HG1:=Aside0.mk (grown_drew g1)
   have HR1:=Aside0.mk r1d
   clear r1 g1 r1d
   generalize hw1:((((wr.setCell ⟨g,p*4,none⟩ (.int .i64 y.j)).setCell ⟨g,p*4+1,none⟩ (.int .i64 y.b)).setCell ⟨g,p*4+2,none⟩ (.int .i64 y.f)).setCell ⟨g,p*4+3,none⟩ (.int .i64 y.t)).drew=w1 at HG1 HR1 z0 z1 z2 z3 fz1 ⊢
   clear hw1
   refine pure_ (i:=22) (N:=some 37) (v:=?_) (a':=?_) #[true,true,true,true,true,true,true,true,true,true,true,true,true,true,true,true,true,true,true,true,true,true,true,false] rfl rfl (by kernel_rfl) (fun _ _ _ h=>h) (Or.inl ⟨by rfl,?_⟩) ?_ ?_
   rotate_left
   ·intro w'
    go_simp
    with_reducible rfl
   rotate_left
   ·simp only [Act.put,sp__,i64_w,i32_w]
    rfl
   refine last_ (i:=23) (N:=none) #[true,true,true,true,true,true,true,true,true,true,true,true,true,true,true,true,true,true,true,true,true,true,true,true] rfl rfl (by kernel_rfl) (by decide) (fun K hK=>?_)
   refine skip_ (w1:=?_) (by rfl) rfl ?_ ?_
   rotate_left
   ·go_simp
    rfl
   refine hK.out _ _ ?_
   clear hK K
   refine done_ (by kernel_rfl) ?_
   go_wp2_with (fail)
   obtain ⟨r2,g2⟩:=put_elem HR1.out q hqN x
   have e:∀ (k:Nat) (hk:k<L'.length),rd_Slt L' (k:Int)=L'[k]:=fun k hk=>by
    unfold rd_Slt;rw [Int.toNat_natCast,List.getD_eq_getElem?_getD,List.getElem?_eq_getElem hk];rfl
   have HL2:=hid (show PermAt g cap base N L _ from ⟨_,by
    rw [HXX.out,HYY.out,e p (by rw [HLN.out];exact hpN),e q (by rw [HLN.out];exact hqN)]
    exact (swap_list L' p q (by rw [HLN.out];exact hpN) (by rw [HLN.out];exact hqN)).trans HPM.out,by rw [List.length_set,List.length_set,HLN.out],r2⟩)
   have HG2:=Aside0.mk ((HG.out.trans HG1.out).trans g2)
   clear r2 g2
   go_roundg (n-(i+1))
   case rel=>exact ⟨i+1,by go_num,by have:=HLT.out;omega,HL2,HG2⟩
   case measure=>have:=HLT.out;omega
  ·have d1:decide ((i:Int)<(n:Int))=false:=decide_eq_false (by omega)
   go_wp2_with (fail)
   go_end0
   exact ⟨rfl,HP.out,HG.out⟩
end Go.Proofs.YtiioklboaookiaaGreatDoor.Q
namespace Go.Proofs.YtiioklboaookiaaGreatDoor.Q
open Go.RowKit Go.Proofs.YtiioklboaookiaaGreatDoorW.PrintWords Go.Proofs.YtiioklboaookiaaGreatDoorW.PrintLast Go.Proofs.YtiioklboaookiaaGreatDoor.Hand Go.Proofs.YtiioklboaookiaaGreatDoorW.PrintMore
attribute [local go_sem] max2_int min2_int max_two min_two max_three min_three max_four min_four
set_option linter.unusedVariables false
set_option linter.unusedSimpArgs false
theorem goesC_ {P : Program} {ops : Array Oper} {Q : Exit → Act → World → Prop} {oi : Oper} {N : Option Tmp} {a : Act} {w : World} {K : Act → World → Prop} {f : FuncId} {fn : Func} {xs : Array Operand} {ts : Array TypeId} (hf : P.funcs[f]? = some fn) (hname : (fn.name == "runtime.NumGoroutine") = false) (hb : fn.body.isSome = true) (args : Array Value) (t : Tmp)
  (hw:Region.wanted oi (yielded ops a.tmps)=true) (hN:oi.dst=N) (hop:oi.op=.call { callee:=.value (.tmp t),args:=xs,argTypes:=ts }) (hfn:a.eval (.tmp t)=.func (.func f) #[] #[]) (hargs:xs.map a.eval=args)
  (h:Calls P f args w fun e w'=>∃ v,e=.returned v∧K (a.put N v) w'):if Region.wanted oi (yielded ops a.tmps)=true then Oper.wp P oi a w K Q else K (a.put N undef) w:=by
 refine call_ f args hw hN ?_ h
 have he:=enters_ hf hname hb args w
 unfold execOp
 simp [hop,resolve,Deferred.ofValue,invoke,hfn,hargs,he]
def cmpV:Value:=.func (.func 108) #[] #[]
theorem grow_grown (w:World) (q:Nat) (os:Array Obj) (row:Option Nat):w.grownBy (Go.Sort.grow (w.drewN q) os) row:=by
 refine ⟨rfl,rfl,rfl,by simp [Go.Sort.grow],fun k hk _=>?_⟩
 exact Go.Sort.heap_grow_old _ _ (by simpa using hk)
theorem PermAt.grow {g cap base N:Nat} {L:List Slt} {w:World} (h:PermAt g cap base N L w) (q:Nat) (os:Array Obj):PermAt g cap base N L (Go.Sort.grow (w.drewN q) os):=by
 obtain ⟨L',h1,h2,h3⟩:=h
 exact ⟨L',h1,h2,Kd.R_below h3 ⟨rfl,rfl,rfl,by simp [Go.Sort.grow],fun k hk=>Go.Sort.heap_grow_old _ _ (by simpa using hk)⟩⟩
theorem grow_below (w:World) (q:Nat) (os:Array Obj):Below w.heap.size w (Go.Sort.grow (w.drewN q) os):=⟨rfl,rfl,rfl,by simp [Go.Sort.grow],fun k hk=>Go.Sort.heap_grow_old _ _ (by simpa using hk)⟩
theorem PermAt.drew {g cap base N:Nat} {L:List Slt} {w:World} (h:PermAt g cap base N L w):PermAt g cap base N L w.drew:=by
 obtain ⟨L',h1,h2,h3⟩:=h
 exact ⟨L',h1,h2,Kd.R_drew h3⟩
theorem PermAt.cells {g cap base N:Nat} {L:List Slt} {w:World} (h:PermAt g cap base N L w) (p q:Nat) (hp:p<N) (hq:q<N):∃ x y,Two g p q x y w:=by
 obtain ⟨L',h1,h2,h3⟩:=h
 exact ⟨_,_,elem_cells h3 p hp,elem_cells h3 q hq⟩
theorem order_walk2 (x y:Slt) (w:World):Calls Tryz.prog 108 #[.agg #[.int .i64 x.j,.int .i64 x.b,.int .i64 x.f,.int .i64 x.t],.agg #[.int .i64 y.j,.int .i64 y.b,.int .i64 y.f,.int .i64 y.t]] w fun e w'=>e=.returned (.int .i64 (cmpSlt x y))∧∃ q os',w' = Go.Sort.grow (w.drewN q) os':=order_walk x y w
theorem half_nat {i j:Nat}:((i:Int)+(j:Int)) / 2=((i+j) / 2:Nat):=by omega
set_option maxHeartbeats 8000000 in
set_option maxRecDepth 100000 in
theorem symm_first (g cap base N:Nat) (L:List Slt) (hN:N≤100000) (a m b:Nat) (w:World) (ham:a<m) (hmb:m<b) (hbN:b≤N) (h:PermAt g cap base N L w) (h1:m=a+1) :
  Calls Tryz.prog 172 #[.slice (some ⟨g,0,none⟩) N cap,.int .i64 a,.int .i64 m,.int .i64 b,cmpV] w fun e w'=>e=.returned (.tuple #[])∧PermAt g cap base N L w'∧w.grownBy w' (some g):=by
 have HP0:=hid h
 have HG0:Aside0 (w.grownBy w (some g)):=⟨World.grownBy.refl w _⟩
 clear h
 unfold cmpV
 have d1:((m:Int)-(a:Int) == 1)=true:=beq_iff_eq.2 (by omega)
 have a0:(0:Int)≤(a:Int):=by omega
 have a1:(a:Int)<(N:Int):=by omega
 clear h1
 go_enter Tryz.func172,Tryz.ntmps172
 go_wp2_with (fail)
 go_loopg [10,11] (b-m) (fun kq v10 v11 w'=>∃ (i j:Nat),v10=.int .i64 i∧v11=.int .i64 j∧j-i≤kq∧i≤j∧Hid (m≤i∧j≤b)∧Hid (PermAt g cap base N L w')∧Aside0 (w.grownBy w' (some g)))
 case atStart=>exact ⟨m,b,rfl,rfl,Nat.le_refl _,by omega,hid ⟨Nat.le_refl _,Nat.le_refl _⟩,HP0,HG0⟩
 case round =>
   clear HP0 HG0
   obtain ⟨i,j,rfl,rfl,hkq,hij,HI,HP,HG⟩:=hrel
   obtain ⟨him,hjb⟩:=HI.out
   by_cases hlt:i<j
   ·have d2:decide ((i:Int)<(j:Int))=true:=decide_eq_true (by omega)
    have HLT:=hid hlt
    obtain ⟨c,hc⟩:∃ c,c=(i+j) / 2:=⟨_,rfl⟩
    have ec:((i:Int)+(j:Int)) / 2=(c:Int):=by rw [half_nat,hc]
    have hc1:i≤c∧c<j:=by omega
    have HC1:=hid hc1
    have c0:(0:Int)≤(c:Int):=by omega
    have c1:(c:Int)<(N:Int):=by omega
    have j1:(j:Int)≤100000:=by omega
    obtain ⟨x,y,hx,hy⟩:=HP.out.cells c a (by omega) (by omega)
    have HS:=hid (show wr.drew.cell? ⟨g,c*4,none⟩=some (.int .i64 x.j)∧wr.drew.cell? ⟨g,c*4+1,none⟩=some (.int .i64 x.b)∧wr.drew.cell? ⟨g,c*4+2,none⟩=some (.int .i64 x.f)∧wr.drew.cell? ⟨g,c*4+3,none⟩=some (.int .i64 x.t)∧wr.drew.cell? ⟨g,a*4,none⟩=some (.int .i64 y.j)∧wr.drew.cell? ⟨g,a*4+1,none⟩=some (.int .i64 y.b)∧wr.drew.cell? ⟨g,a*4+2,none⟩=some (.int .i64 y.f)∧wr.drew.cell? ⟨g,a*4+3,none⟩=some (.int .i64 y.t) from ⟨hx.1,hx.2.1,hx.2.2.1,hx.2.2.2,hy.1,hy.2.1,hy.2.2.1,hy.2.2.2⟩)
    clear hx hy
    clear hc
    go_upto_region 5 with (fail)
    refine start_ (n:=11) (S:=fun w'=>w'.cell? ⟨g,c*4,none⟩=some (.int .i64 x.j)∧w'.cell? ⟨g,c*4+1,none⟩=some (.int .i64 x.b)∧w'.cell? ⟨g,c*4+2,none⟩=some (.int .i64 x.f)∧w'.cell? ⟨g,c*4+3,none⟩=some (.int .i64 x.t)∧w'.cell? ⟨g,a*4,none⟩=some (.int .i64 y.j)∧w'.cell? ⟨g,a*4+1,none⟩=some (.int .i64 y.b)∧w'.cell? ⟨g,a*4+2,none⟩=some (.int .i64 y.f)∧w'.cell? ⟨g,a*4+3,none⟩=some (.int .i64 y.t)) (ds:=[]) #[false,false,false,false,false,false,false,false,false,false,false] (by kernel_rfl) rfl rfl HS.out (fun hHeld=>?_)
    refine pure_ (i:=0) (N:=some 40) (v:=?_) (a':=?_) #[true,false,false,false,false,false,false,false,false,false,false] rfl rfl (by kernel_rfl) (fun _ _ _ h=>h) (Or.inl ⟨by rfl,?_⟩) ?_ ?_
    rotate_left
    ·intro w'
     go_simp
     with_reducible rfl
    rotate_left
    ·simp only [Act.put,sp__,i64_w,i32_w]
     rfl
    refine pure_ (i:=1) (N:=some 41) (v:=?_) (a':=?_) #[true,true,false,false,false,false,false,false,false,false,false] rfl rfl (by kernel_rfl) (fun _ _ _ h=>h) (Or.inl ⟨by rfl,?_⟩) ?_ ?_
    rotate_left
    ·intro w'
     go_simp
     with_reducible rfl
    rotate_left
    ·simp only [Act.put,sp__,i64_w,i32_w]
     rfl
    refine pure_ (i:=2) (N:=some 42) (v:=?_) (a':=?_) #[true,true,true,false,false,false,false,false,false,false,false] rfl rfl (by kernel_rfl) (fun _ _ _ h=>h) (Or.inl ⟨by rfl,?_⟩) ?_ ?_
    rotate_left
    ·intro w'
     go_simp
     with_reducible rfl
    rotate_left
    ·simp only [Act.put,sp__,i64_w,i32_w]
     rfl
    refine pure_ (i:=3) (N:=some 43) (v:=?_) (a':=?_) #[true,true,true,true,false,false,false,false,false,false,false] rfl rfl (by kernel_rfl) (fun _ _ _ h=>h) (Or.inl ⟨by rfl,?_⟩) ?_ ?_
    rotate_left
    ·intro w'
     go_simp
     with_reducible rfl
    rotate_left
    ·simp only [Act.put,sp__,i64_w,i32_w]
     rfl
    refine pure_ (i:=5) (N:=some 45) (v:=?_) (a':=?_) #[true,true,true,true,false,true,false,false,false,false,false] rfl rfl (by kernel_rfl) (fun _ _ _ h=>h) (Or.inl ⟨by rfl,?_⟩) ?_ ?_
    rotate_left
    ·intro w'
     go_simp
     with_reducible rfl
    rotate_left
    ·simp only [Act.put,sp__,i64_w,i32_w]
     rfl
    refine pure_ (i:=6) (N:=some 46) (v:=?_) (a':=?_) #[true,true,true,true,false,true,true,false,false,false,false] rfl rfl (by kernel_rfl) (fun _ _ _ h=>h) (Or.inl ⟨by rfl,?_⟩) ?_ ?_
    rotate_left
    ·intro w'
     go_simp
     with_reducible rfl
    rotate_left
    ·simp only [Act.put,sp__,i64_w,i32_w]
     rfl
    refine pure_ (i:=7) (N:=some 47) (v:=?_) (a':=?_) #[true,true,true,true,false,true,true,true,false,false,false] rfl rfl (by kernel_rfl) (fun _ _ _ h=>h) (Or.inl ⟨by rfl,?_⟩) ?_ ?_
    rotate_left
    ·intro w'
     go_simp
     with_reducible rfl
    rotate_left
    ·simp only [Act.put,sp__,i64_w,i32_w]
     rfl
    refine take_ (i:=4) (N:=some 44) (v:=?_) (a':=?_) #[true,true,true,true,true,true,true,true,false,false,false] rfl rfl (by kernel_rfl) (fun _ _ _ h=>h) (Or.inl ⟨by rfl,?_⟩) hHeld ?_ ?_
    rotate_left
    ·rintro w' ⟨s0,s1,s2,s3,s4,s5,s6,s7⟩
     go_simp
     with_reducible rfl
    rotate_left
    ·simp only [Act.put,sp__,i64_w,i32_w]
     rfl
    refine take_ (i:=8) (N:=some 48) (v:=?_) (a':=?_) #[true,true,true,true,true,true,true,true,true,false,false] rfl rfl (by kernel_rfl) (fun _ _ _ h=>h) (Or.inl ⟨by rfl,?_⟩) hHeld ?_ ?_
    rotate_left
    ·rintro w' ⟨s0,s1,s2,s3,s4,s5,s6,s7⟩
     go_simp
     with_reducible rfl
    rotate_left
    ·simp only [Act.put,sp__,i64_w,i32_w]
     rfl
    refine one_ (i:=9) (N:=some 49) #[true,true,true,true,true,true,true,true,true,true,false] rfl rfl (by kernel_rfl) (by decide) (fun K hK=>?_)
    refine goesC_ Tryz.func108 (by kernel_rfl) rfl #[.agg #[.int .i64 x.j,.int .i64 x.b,.int .i64 x.f,.int .i64 x.t],.agg #[.int .i64 y.j,.int .i64 y.b,.int .i64 y.f,.int .i64 y.t]] 40 (by rfl) rfl rfl (by rfl) (by (try simp only [List.map_toArray,List.map_cons,List.map_nil]);first|done|rfl) ?_
    refine (order_walk2 x y _).mono ?_
    rintro e w4 ⟨rfl,qd,os,rfl⟩
    have HP4:=hid (HP.out.drew.grow qd os)
    have HG4:=Aside0.mk ((grown_drew HG.out).trans (grow_grown wr.drew qd os (some g)))
    refine ⟨_,rfl,?_⟩
    refine hK.out _ _ ⟨pw_cell_below (grow_below _ _ _) HS.out.1,pw_cell_below (grow_below _ _ _) HS.out.2.1,pw_cell_below (grow_below _ _ _) HS.out.2.2.1,pw_cell_below (grow_below _ _ _) HS.out.2.2.2.1,pw_cell_below (grow_below _ _ _) HS.out.2.2.2.2.1,pw_cell_below (grow_below _ _ _) HS.out.2.2.2.2.2.1,pw_cell_below (grow_below _ _ _) HS.out.2.2.2.2.2.2.1,pw_cell_below (grow_below _ _ _) HS.out.2.2.2.2.2.2.2⟩ (fun hHeld=>?_)
    clear hK K
    refine norm_ (a':=?_) ?_ ?_
    rotate_left
    ·show Act.put _ (some 49) _=_
     simp only [Act.put,sp__,i64_w,i32_w]
     rfl
    refine pure_ (i:=10) (N:=some 50) (v:=?_) (a':=?_) #[true,true,true,true,true,true,true,true,true,true,true] rfl rfl (by kernel_rfl) (fun _ _ _ h=>h) (Or.inl ⟨by rfl,?_⟩) ?_ ?_
    rotate_left
    ·intro w'
     go_simp
     with_reducible rfl
    rotate_left
    ·simp only [Act.put,sp__,i64_w,i32_w]
     rfl
    refine done_ (by kernel_rfl) ?_
    obtain ⟨w4,hw4⟩:∃ w4,w4=Go.Sort.grow (wr.drew.drewN qd) os:=⟨_,rfl⟩
    rw [← hw4] at HP4 HG4 hHeld ⊢
    clear hw4 hHeld HS HP HG
    go_wp2_with (fail)
    ·go_roundg (j-(c+1))
     case rel=>exact ⟨c+1,j,rfl,rfl,Nat.le_refl _,by have:=HC1.out;omega,hid (by have:=HC1.out;have:=HI.out;omega),HP4,HG4⟩
     case measure=>have:=HC1.out;omega
    ·go_roundg (c-i)
     case rel=>exact ⟨i,c,rfl,rfl,Nat.le_refl _,by have:=HC1.out;omega,hid (by have:=HC1.out;have:=HI.out;omega),HP4,HG4⟩
     case measure=>have:=HC1.out;have:=HLT.out;omega
   ·have d2:decide ((i:Int)<(j:Int))=false:=decide_eq_false (by omega)
    have i1:(i:Int)≤100000:=by omega
    have im1:1≤i:=by omega
    have HIB:=hid (show i≤N by omega)
    go_wp2_with (fail)
    clear hlt
    have HG1:=HG
    have HP1:=HP
    clear HG HP
    go_loopg [13] i (fun kq v13 w'=>∃ (k:Nat),v13=.int .i64 k∧i≤k+kq∧k≤i∧Hid (a≤k)∧Hid (PermAt g cap base N L w')∧Aside0 (w.grownBy w' (some g)))
    case atStart=>exact ⟨a,rfl,by omega,by omega,hid (Nat.le_refl _),HP1,HG1⟩
    case round =>
     clear HP1 HG1
     obtain ⟨k,rfl,hkk,hki,HAK,HP,HG⟩:=hrel
     by_cases hlt:k+1<i
     ·have d3:decide ((k:Int)<(i:Int)-1)=true:=decide_eq_true (by omega)
      have HLT:=hid hlt
      have hiN:=HIB.out
      obtain ⟨q,hq⟩:∃ q,q=k+1:=⟨_,rfl⟩
      have eq:(k:Int)+1=(q:Int):=by omega
      obtain ⟨L',h1,h2,h3⟩:=HP.out
      have HR:=Aside0.mk h3
      have HPM:=hid h1
      have HLN:=hid h2
      have hpN:k<N:=by omega
      have hqN:q<N:=by omega
      have hx:=elem_cells h3 k hpN
      have hy:=elem_cells h3 q hqN
      have hfz:∀ o,wr.frozen? ⟨g,o,none⟩=false:=by
       obtain ⟨cells,hc⟩:=Kd.R_typed h3 g rfl
       exact fun o=>blk_frozen hc _
      obtain ⟨x,hxx⟩:∃ x,x=rd_Slt L' (k:Int):=⟨_,rfl⟩
      obtain ⟨y,hyy⟩:∃ y,y=rd_Slt L' (q:Int):=⟨_,rfl⟩
      rw [← hxx] at hx
      rw [← hyy] at hy
      have HXX:=hid hxx
      have HYY:=hid hyy
      have HS:=hid (show wr.drew.cell? ⟨g,k*4,none⟩=some (.int .i64 x.j)∧wr.drew.cell? ⟨g,k*4+1,none⟩=some (.int .i64 x.b)∧wr.drew.cell? ⟨g,k*4+2,none⟩=some (.int .i64 x.f)∧wr.drew.cell? ⟨g,k*4+3,none⟩=some (.int .i64 x.t)∧wr.drew.cell? ⟨g,q*4,none⟩=some (.int .i64 y.j)∧wr.drew.cell? ⟨g,q*4+1,none⟩=some (.int .i64 y.b)∧wr.drew.cell? ⟨g,q*4+2,none⟩=some (.int .i64 y.f)∧wr.drew.cell? ⟨g,q*4+3,none⟩=some (.int .i64 y.t) from ⟨hx.1,hx.2.1,hx.2.2.1,hx.2.2.2,hy.1,hy.2.1,hy.2.2.1,hy.2.2.2⟩)
      obtain ⟨hx0,hx1,hx2,hx3⟩:=hx
      obtain ⟨hy0,hy1,hy2,hy3⟩:=hy
      clear h1 h2 h3 HP hxx hyy
      have q0:(0:Int)≤(q:Int):=by omega
      have k0:(0:Int)≤(k:Int):=by omega
      have q1:(q:Int)<(N:Int):=by omega
      have k1:(k:Int)<(N:Int):=by omega
      have HQE:=hid hq
      have wq:wrap64 (q:Int)=(q:Int):=w64_in _ (by omega) (by omega)
      clear hlt hq
      go_upto_region 11 with (fail)
      refine start_ (n:=18) (S:=fun w'=>w'.cell? ⟨g,k*4,none⟩=some (.int .i64 x.j)∧w'.cell? ⟨g,k*4+1,none⟩=some (.int .i64 x.b)∧w'.cell? ⟨g,k*4+2,none⟩=some (.int .i64 x.f)∧w'.cell? ⟨g,k*4+3,none⟩=some (.int .i64 x.t)∧w'.cell? ⟨g,q*4,none⟩=some (.int .i64 y.j)∧w'.cell? ⟨g,q*4+1,none⟩=some (.int .i64 y.b)∧w'.cell? ⟨g,q*4+2,none⟩=some (.int .i64 y.f)∧w'.cell? ⟨g,q*4+3,none⟩=some (.int .i64 y.t)) (ds:=[15,17]) #[false,false,false,false,false,false,false,false,false,false,false,false,false,false,false,false,false,false] (by kernel_rfl) rfl rfl HS.out (fun hHeld=>?_)
      refine pure_ (i:=0) (N:=some 61) (v:=?_) (a':=?_) #[true,false,false,false,false,false,false,false,false,false,false,false,false,false,false,false,false,false] rfl rfl (by kernel_rfl) (fun _ _ _ h=>h) (Or.inl ⟨by rfl,?_⟩) ?_ ?_
      rotate_left
      ·intro w'
       go_simp
       with_reducible rfl
      rotate_left
      ·simp only [Act.put,sp__,i64_w,i32_w]
       rfl
      refine pure_ (i:=1) (N:=some 62) (v:=?_) (a':=?_) #[true,true,false,false,false,false,false,false,false,false,false,false,false,false,false,false,false,false] rfl rfl (by kernel_rfl) (fun _ _ _ h=>h) (Or.inl ⟨by rfl,?_⟩) ?_ ?_
      rotate_left
      ·intro w'
       go_simp
       with_reducible rfl
      rotate_left
      ·simp only [Act.put,sp__,i64_w,i32_w]
       rfl
      refine pure_ (i:=2) (N:=some 63) (v:=?_) (a':=?_) #[true,true,true,false,false,false,false,false,false,false,false,false,false,false,false,false,false,false] rfl rfl (by kernel_rfl) (fun _ _ _ h=>h) (Or.inl ⟨by rfl,?_⟩) ?_ ?_
      rotate_left
      ·intro w'
       go_simp
       with_reducible rfl
      rotate_left
      ·simp only [Act.put,sp__,i64_w,i32_w]
       rfl
      refine pure_ (i:=3) (N:=some 64) (v:=?_) (a':=?_) #[true,true,true,true,false,false,false,false,false,false,false,false,false,false,false,false,false,false] rfl rfl (by kernel_rfl) (fun _ _ _ h=>h) (Or.inl ⟨by rfl,?_⟩) ?_ ?_
      rotate_left
      ·intro w'
       go_simp
       with_reducible rfl
      rotate_left
      ·simp only [Act.put,sp__,i64_w,i32_w]
       rfl
      refine pure_ (i:=4) (N:=some 65) (v:=?_) (a':=?_) #[true,true,true,true,true,false,false,false,false,false,false,false,false,false,false,false,false,false] rfl rfl (by kernel_rfl) (fun _ _ _ h=>h) (Or.inl ⟨by rfl,?_⟩) ?_ ?_
      rotate_left
      ·intro w'
       go_simp
       with_reducible rfl
      rotate_left
      ·simp only [Act.put,sp__,i64_w,i32_w]
       rfl
      refine pure_ (i:=5) (N:=some 66) (v:=?_) (a':=?_) #[true,true,true,true,true,true,false,false,false,false,false,false,false,false,false,false,false,false] rfl rfl (by kernel_rfl) (fun _ _ _ h=>h) (Or.inl ⟨by rfl,?_⟩) ?_ ?_
      rotate_left
      ·intro w'
       go_simp
       with_reducible rfl
      rotate_left
      ·simp only [Act.put,sp__,i64_w,i32_w]
       rfl
      refine pure_ (i:=6) (N:=some 67) (v:=?_) (a':=?_) #[true,true,true,true,true,true,true,false,false,false,false,false,false,false,false,false,false,false] rfl rfl (by kernel_rfl) (fun _ _ _ h=>h) (Or.inl ⟨by rfl,?_⟩) ?_ ?_
      rotate_left
      ·intro w'
       go_simp
       with_reducible rfl
      rotate_left
      ·simp only [Act.put,sp__,i64_w,i32_w]
       rfl
      refine pure_ (i:=7) (N:=some 68) (v:=?_) (a':=?_) #[true,true,true,true,true,true,true,true,false,false,false,false,false,false,false,false,false,false] rfl rfl (by kernel_rfl) (fun _ _ _ h=>h) (Or.inl ⟨by rfl,?_⟩) ?_ ?_
      rotate_left
      ·intro w'
       go_simp
       with_reducible rfl
      rotate_left
      ·simp only [Act.put,sp__,i64_w,i32_w]
       rfl
      refine pure_ (i:=8) (N:=some 69) (v:=?_) (a':=?_) #[true,true,true,true,true,true,true,true,true,false,false,false,false,false,false,false,false,false] rfl rfl (by kernel_rfl) (fun _ _ _ h=>h) (Or.inl ⟨by rfl,?_⟩) ?_ ?_
      rotate_left
      ·intro w'
       go_simp
       with_reducible rfl
      rotate_left
      ·simp only [Act.put,sp__,i64_w,i32_w]
       rfl
      refine take_ (i:=9) (N:=some 70) (v:=?_) (a':=?_) #[true,true,true,true,true,true,true,true,true,true,false,false,false,false,false,false,false,false] rfl rfl (by kernel_rfl) (fun _ _ _ h=>h) (Or.inl ⟨by rfl,?_⟩) hHeld ?_ ?_
      rotate_left
      ·rintro w' ⟨s0,s1,s2,s3,s4,s5,s6,s7⟩
       go_simp
       with_reducible rfl
      rotate_left
      ·simp only [Act.put,sp__,i64_w,i32_w]
       rfl
      refine pure_ (i:=10) (N:=some 71) (v:=?_) (a':=?_) #[true,true,true,true,true,true,true,true,true,true,true,false,false,false,false,false,false,false] rfl rfl (by kernel_rfl) (fun _ _ _ h=>h) (Or.inl ⟨by rfl,?_⟩) ?_ ?_
      rotate_left
      ·intro w'
       go_simp
       with_reducible rfl
      rotate_left
      ·simp only [Act.put,sp__,i64_w,i32_w]
       rfl
      refine pure_ (i:=11) (N:=some 72) (v:=?_) (a':=?_) #[true,true,true,true,true,true,true,true,true,true,true,true,false,false,false,false,false,false] rfl rfl (by kernel_rfl) (fun _ _ _ h=>h) (Or.inl ⟨by rfl,?_⟩) ?_ ?_
      rotate_left
      ·intro w'
       go_simp
       with_reducible rfl
      rotate_left
      ·simp only [Act.put,sp__,i64_w,i32_w]
       rfl
      refine pure_ (i:=12) (N:=some 73) (v:=?_) (a':=?_) #[true,true,true,true,true,true,true,true,true,true,true,true,true,false,false,false,false,false] rfl rfl (by kernel_rfl) (fun _ _ _ h=>h) (Or.inl ⟨by rfl,?_⟩) ?_ ?_
      rotate_left
      ·intro w'
       go_simp
       with_reducible rfl
      rotate_left
      ·simp only [Act.put,sp__,i64_w,i32_w]
       rfl
      refine take_ (i:=13) (N:=some 74) (v:=?_) (a':=?_) #[true,true,true,true,true,true,true,true,true,true,true,true,true,true,false,false,false,false] rfl rfl (by kernel_rfl) (fun _ _ _ h=>h) (Or.inl ⟨by rfl,?_⟩) hHeld ?_ ?_
      rotate_left
      ·rintro w' ⟨s0,s1,s2,s3,s4,s5,s6,s7⟩
       go_simp
       with_reducible rfl
      rotate_left
      ·simp only [Act.put,sp__,i64_w,i32_w]
       rfl
      refine pure_ (i:=14) (N:=some 75) (v:=?_) (a':=?_) #[true,true,true,true,true,true,true,true,true,true,true,true,true,true,true,false,false,false] rfl rfl (by kernel_rfl) (fun _ _ _ h=>h) (Or.inl ⟨by rfl,?_⟩) ?_ ?_
      rotate_left
      ·intro w'
       go_simp
       with_reducible rfl
      rotate_left
      ·simp only [Act.put,sp__,i64_w,i32_w]
       rfl
      refine last_ (i:=15) (N:=none) #[true,true,true,true,true,true,true,true,true,true,true,true,true,true,true,true,false,false] rfl rfl (by kernel_rfl) (by decide) (fun K hK=>?_)
      refine skip_ (w1:=?_) (by rfl) rfl ?_ ?_
      rotate_left
      ·go_simp
       rfl
      refine hK.out _ _ ?_
      clear hK K
      obtain ⟨r1,g1⟩:=put_elem HR.out k hpN y
      have r1d:=Kd.R_drew r1
      obtain ⟨z0,z1,z2,z3⟩:=elem_cells r1d q hqN
      have fz1:∀ o,(((((wr.setCell ⟨g,k*4,none⟩ (.int .i64 y.j)).setCell ⟨g,k*4+1,none⟩ (.int .i64 y.b)).setCell ⟨g,k*4+2,none⟩ (.int .i64 y.f)).setCell ⟨g,k*4+3,none⟩ (.int .i64 y.t)).drew).frozen? ⟨g,o,none⟩=false:=(by obtain ⟨cells,hc⟩:=Kd.R_typed r1d g rfl;exact fun o=>blk_frozen hc _)
      have HG1:=Aside0.mk (grown_drew g1)
      have HR1:=Aside0.mk r1d
      clear r1 g1 r1d
      generalize hw1:((((wr.setCell ⟨g,k*4,none⟩ (.int .i64 y.j)).setCell ⟨g,k*4+1,none⟩ (.int .i64 y.b)).setCell ⟨g,k*4+2,none⟩ (.int .i64 y.f)).setCell ⟨g,k*4+3,none⟩ (.int .i64 y.t)).drew=w1 at HG1 HR1 z0 z1 z2 z3 fz1 ⊢
      clear hw1
      refine pure_ (i:=16) (N:=some 76) (v:=?_) (a':=?_) #[true,true,true,true,true,true,true,true,true,true,true,true,true,true,true,true,true,false] rfl rfl (by kernel_rfl) (fun _ _ _ h=>h) (Or.inl ⟨by rfl,?_⟩) ?_ ?_
      rotate_left
      ·intro w'
       go_simp
       with_reducible rfl
      rotate_left
      ·simp only [Act.put,sp__,i64_w,i32_w]
       rfl
      refine last_ (i:=17) (N:=none) #[true,true,true,true,true,true,true,true,true,true,true,true,true,true,true,true,true,true] rfl rfl (by kernel_rfl) (by decide) (fun K hK=>?_)
      refine skip_ (w1:=?_) (by rfl) rfl ?_ ?_
      rotate_left
      ·go_simp
       rfl
      refine hK.out _ _ ?_
      clear hK K
      refine done_ (by kernel_rfl) ?_
      obtain ⟨r2,g2⟩:=put_elem HR1.out q hqN x
      have e:∀ (k:Nat) (hk:k<L'.length),rd_Slt L' (k:Int)=L'[k]:=fun k hk=>by
       unfold rd_Slt;rw [Int.toNat_natCast,List.getD_eq_getElem?_getD,List.getElem?_eq_getElem hk];rfl
      have HL2:=hid (show PermAt g cap base N L _ from ⟨_,by
       rw [HXX.out,HYY.out,e k (by rw [HLN.out];exact hpN),e q (by rw [HLN.out];exact hqN)]
       exact (swap_list L' k q (by rw [HLN.out];exact hpN) (by rw [HLN.out];exact hqN)).trans HPM.out,by rw [List.length_set,List.length_set,HLN.out],r2⟩)
      have HG2:=Aside0.mk ((HG.out.trans HG1.out).trans g2)
      clear r2 g2
      clear wq eq
      have k2:(k:Int)≤100000:=by have:=HLT.out;omega
      go_wp2_with (fail)
      go_roundg (i-q)
      case rel=>exact ⟨q,congrArg (Value.int .i64) (show (k:Int)+1=(q:Int) by have:=HQE.out;omega),by have:=HQE.out;have:=HLT.out;omega,by have:=HQE.out;have:=HLT.out;omega,hid (by have:=HQE.out;have:=HAK.out;omega),HL2,HG2⟩
      case measure=>have:=HQE.out;have:=HLT.out;omega
     ·have d3:decide ((k:Int)<(i:Int)-1)=false:=decide_eq_false (by omega)
      go_wp2_with (fail)
      (try simp only [Exit.inBlock,Exit.then])
      refine bodyPost_ret (results_none rfl _ _ _) rfl ?_
      exact ⟨rfl,HP.out,HG.out⟩
end Go.Proofs.YtiioklboaookiaaGreatDoor.Q
namespace Go.Proofs.YtiioklboaookiaaGreatDoor.Q
open Go.RowKit Go.Proofs.YtiioklboaookiaaGreatDoorW.PrintWords Go.Proofs.YtiioklboaookiaaGreatDoorW.PrintLast Go.Proofs.YtiioklboaookiaaGreatDoor.Hand Go.Proofs.YtiioklboaookiaaGreatDoorW.PrintMore
attribute [local go_sem] max2_int min2_int max_two min_two max_three min_three max_four min_four
set_option linter.unusedVariables false
set_option linter.unusedSimpArgs false
set_option maxHeartbeats 8000000 in
set_option maxRecDepth 100000 in
theorem symm_second (g cap base N:Nat) (L:List Slt) (hN:N≤100000) (a m b:Nat) (w:World) (ham:a<m) (hmb:m<b) (hbN:b≤N) (h:PermAt g cap base N L w) (h0:m≠a+1) (h1:b=m+1) :
  Calls Tryz.prog 172 #[.slice (some ⟨g,0,none⟩) N cap,.int .i64 a,.int .i64 m,.int .i64 b,cmpV] w fun e w'=>e=.returned (.tuple #[])∧PermAt g cap base N L w'∧w.grownBy w' (some g):=by
 have HP0:=hid h
 have HG0:Aside0 (w.grownBy w (some g)):=⟨World.grownBy.refl w _⟩
 clear h
 unfold cmpV
 have d0:((m:Int)-(a:Int) == 1)=false:=beq_eq_false_iff_ne.2 (by omega)
 have d1:((b:Int)-(m:Int) == 1)=true:=beq_iff_eq.2 (by omega)
 have a0:(0:Int)≤(m:Int):=by omega
 have a1:(m:Int)<(N:Int):=by omega
 clear h0 h1
 go_enter Tryz.func172,Tryz.ntmps172
 go_wp2_with (fail)
 go_loopg [14,15] (m-a) (fun kq v14 v15 w'=>∃ (i j:Nat),v14=.int .i64 i∧v15=.int .i64 j∧j-i≤kq∧i≤j∧Hid (a≤i∧j≤m)∧Hid (PermAt g cap base N L w')∧Aside0 (w.grownBy w' (some g)))
 case atStart=>exact ⟨a,m,rfl,rfl,Nat.le_refl _,by omega,hid ⟨Nat.le_refl _,Nat.le_refl _⟩,HP0,HG0⟩
 case round =>
   clear HP0 HG0
   obtain ⟨i,j,rfl,rfl,hkq,hij,HI,HP,HG⟩:=hrel
   obtain ⟨him,hjb⟩:=HI.out
   by_cases hlt:i<j
   ·have d2:decide ((i:Int)<(j:Int))=true:=decide_eq_true (by omega)
    have HLT:=hid hlt
    obtain ⟨c,hc⟩:∃ c,c=(i+j) / 2:=⟨_,rfl⟩
    have ec:((i:Int)+(j:Int)) / 2=(c:Int):=by rw [half_nat,hc]
    have hc1:i≤c∧c<j:=by omega
    have HC1:=hid hc1
    have c0:(0:Int)≤(c:Int):=by omega
    have c1:(c:Int)<(N:Int):=by omega
    have j1:(j:Int)≤100000:=by omega
    obtain ⟨x,y,hx,hy⟩:=HP.out.cells m c (by omega) (by omega)
    have HS:=hid (show wr.drew.cell? ⟨g,m*4,none⟩=some (.int .i64 x.j)∧wr.drew.cell? ⟨g,m*4+1,none⟩=some (.int .i64 x.b)∧wr.drew.cell? ⟨g,m*4+2,none⟩=some (.int .i64 x.f)∧wr.drew.cell? ⟨g,m*4+3,none⟩=some (.int .i64 x.t)∧wr.drew.cell? ⟨g,c*4,none⟩=some (.int .i64 y.j)∧wr.drew.cell? ⟨g,c*4+1,none⟩=some (.int .i64 y.b)∧wr.drew.cell? ⟨g,c*4+2,none⟩=some (.int .i64 y.f)∧wr.drew.cell? ⟨g,c*4+3,none⟩=some (.int .i64 y.t) from ⟨hx.1,hx.2.1,hx.2.2.1,hx.2.2.2,hy.1,hy.2.1,hy.2.2.1,hy.2.2.2⟩)
    clear hx hy
    clear hc
    go_upto_region 17 with (fail)
    refine start_ (n:=12) (S:=fun w'=>w'.cell? ⟨g,m*4,none⟩=some (.int .i64 x.j)∧w'.cell? ⟨g,m*4+1,none⟩=some (.int .i64 x.b)∧w'.cell? ⟨g,m*4+2,none⟩=some (.int .i64 x.f)∧w'.cell? ⟨g,m*4+3,none⟩=some (.int .i64 x.t)∧w'.cell? ⟨g,c*4,none⟩=some (.int .i64 y.j)∧w'.cell? ⟨g,c*4+1,none⟩=some (.int .i64 y.b)∧w'.cell? ⟨g,c*4+2,none⟩=some (.int .i64 y.f)∧w'.cell? ⟨g,c*4+3,none⟩=some (.int .i64 y.t)) (ds:=[]) #[false,false,false,false,false,false,false,false,false,false,false,false] (by kernel_rfl) rfl rfl HS.out (fun hHeld=>?_)
    refine pure_ (i:=0) (N:=some 92) (v:=?_) (a':=?_) #[true,false,false,false,false,false,false,false,false,false,false,false] rfl rfl (by kernel_rfl) (fun _ _ _ h=>h) (Or.inl ⟨by rfl,?_⟩) ?_ ?_
    rotate_left
    ·intro w'
     go_simp
     with_reducible rfl
    rotate_left
    ·simp only [Act.put,sp__,i64_w,i32_w]
     rfl
    refine pure_ (i:=1) (N:=some 93) (v:=?_) (a':=?_) #[true,true,false,false,false,false,false,false,false,false,false,false] rfl rfl (by kernel_rfl) (fun _ _ _ h=>h) (Or.inl ⟨by rfl,?_⟩) ?_ ?_
    rotate_left
    ·intro w'
     go_simp
     with_reducible rfl
    rotate_left
    ·simp only [Act.put,sp__,i64_w,i32_w]
     rfl
    refine pure_ (i:=2) (N:=some 94) (v:=?_) (a':=?_) #[true,true,true,false,false,false,false,false,false,false,false,false] rfl rfl (by kernel_rfl) (fun _ _ _ h=>h) (Or.inl ⟨by rfl,?_⟩) ?_ ?_
    rotate_left
    ·intro w'
     go_simp
     with_reducible rfl
    rotate_left
    ·simp only [Act.put,sp__,i64_w,i32_w]
     rfl
    refine pure_ (i:=3) (N:=some 95) (v:=?_) (a':=?_) #[true,true,true,true,false,false,false,false,false,false,false,false] rfl rfl (by kernel_rfl) (fun _ _ _ h=>h) (Or.inl ⟨by rfl,?_⟩) ?_ ?_
    rotate_left
    ·intro w'
     go_simp
     with_reducible rfl
    rotate_left
    ·simp only [Act.put,sp__,i64_w,i32_w]
     rfl
    refine pure_ (i:=5) (N:=some 97) (v:=?_) (a':=?_) #[true,true,true,true,false,true,false,false,false,false,false,false] rfl rfl (by kernel_rfl) (fun _ _ _ h=>h) (Or.inl ⟨by rfl,?_⟩) ?_ ?_
    rotate_left
    ·intro w'
     go_simp
     with_reducible rfl
    rotate_left
    ·simp only [Act.put,sp__,i64_w,i32_w]
     rfl
    refine pure_ (i:=6) (N:=some 98) (v:=?_) (a':=?_) #[true,true,true,true,false,true,true,false,false,false,false,false] rfl rfl (by kernel_rfl) (fun _ _ _ h=>h) (Or.inl ⟨by rfl,?_⟩) ?_ ?_
    rotate_left
    ·intro w'
     go_simp
     with_reducible rfl
    rotate_left
    ·simp only [Act.put,sp__,i64_w,i32_w]
     rfl
    refine pure_ (i:=7) (N:=some 99) (v:=?_) (a':=?_) #[true,true,true,true,false,true,true,true,false,false,false,false] rfl rfl (by kernel_rfl) (fun _ _ _ h=>h) (Or.inl ⟨by rfl,?_⟩) ?_ ?_
    rotate_left
    ·intro w'
     go_simp
     with_reducible rfl
    rotate_left
    ·simp only [Act.put,sp__,i64_w,i32_w]
     rfl
    refine take_ (i:=4) (N:=some 96) (v:=?_) (a':=?_) #[true,true,true,true,true,true,true,true,false,false,false,false] rfl rfl (by kernel_rfl) (fun _ _ _ h=>h) (Or.inl ⟨by rfl,?_⟩) hHeld ?_ ?_
    rotate_left
    ·rintro w' ⟨s0,s1,s2,s3,s4,s5,s6,s7⟩
     go_simp
     with_reducible rfl
    rotate_left
    ·simp only [Act.put,sp__,i64_w,i32_w]
     rfl
    refine take_ (i:=8) (N:=some 100) (v:=?_) (a':=?_) #[true,true,true,true,true,true,true,true,true,false,false,false] rfl rfl (by kernel_rfl) (fun _ _ _ h=>h) (Or.inl ⟨by rfl,?_⟩) hHeld ?_ ?_
    rotate_left
    ·rintro w' ⟨s0,s1,s2,s3,s4,s5,s6,s7⟩
     go_simp
     with_reducible rfl
    rotate_left
    ·simp only [Act.put,sp__,i64_w,i32_w]
     rfl
    refine one_ (i:=9) (N:=some 101) #[true,true,true,true,true,true,true,true,true,true,false,false] rfl rfl (by kernel_rfl) (by decide) (fun K hK=>?_)
    refine goesC_ Tryz.func108 (by kernel_rfl) rfl #[.agg #[.int .i64 x.j,.int .i64 x.b,.int .i64 x.f,.int .i64 x.t],.agg #[.int .i64 y.j,.int .i64 y.b,.int .i64 y.f,.int .i64 y.t]] 92 (by rfl) rfl rfl (by rfl) (by (try simp only [List.map_toArray,List.map_cons,List.map_nil]);first|done|rfl) ?_
    refine (order_walk2 x y _).mono ?_
    rintro e w4 ⟨rfl,qd,os,rfl⟩
    have HP4:=hid (HP.out.drew.grow qd os)
    have HG4:=Aside0.mk ((grown_drew HG.out).trans (grow_grown wr.drew qd os (some g)))
    refine ⟨_,rfl,?_⟩
    refine hK.out _ _ ⟨pw_cell_below (grow_below _ _ _) HS.out.1,pw_cell_below (grow_below _ _ _) HS.out.2.1,pw_cell_below (grow_below _ _ _) HS.out.2.2.1,pw_cell_below (grow_below _ _ _) HS.out.2.2.2.1,pw_cell_below (grow_below _ _ _) HS.out.2.2.2.2.1,pw_cell_below (grow_below _ _ _) HS.out.2.2.2.2.2.1,pw_cell_below (grow_below _ _ _) HS.out.2.2.2.2.2.2.1,pw_cell_below (grow_below _ _ _) HS.out.2.2.2.2.2.2.2⟩ (fun hHeld=>?_)
    clear hK K
    refine norm_ (a':=?_) ?_ ?_
    rotate_left
    ·show Act.put _ (some 101) _=_
     simp only [Act.put,sp__,i64_w,i32_w]
     rfl
    refine pure_ (i:=10) (N:=some 102) (v:=?_) (a':=?_) #[true,true,true,true,true,true,true,true,true,true,true,false] rfl rfl (by kernel_rfl) (fun _ _ _ h=>h) (Or.inl ⟨by rfl,?_⟩) ?_ ?_
    rotate_left
    ·intro w'
     go_simp
     with_reducible rfl
    rotate_left
    ·simp only [Act.put,sp__,i64_w,i32_w]
     rfl
    refine pure_ (i:=11) (N:=some 103) (v:=?_) (a':=?_) #[true,true,true,true,true,true,true,true,true,true,true,true] rfl rfl (by kernel_rfl) (fun _ _ _ h=>h) (Or.inl ⟨by rfl,?_⟩) ?_ ?_
    rotate_left
    ·intro w'
     go_simp
     with_reducible rfl
    rotate_left
    ·simp only [Act.put,sp__,i64_w,i32_w]
     rfl
    refine done_ (by kernel_rfl) ?_
    obtain ⟨w4,hw4⟩:∃ w4,w4=Go.Sort.grow (wr.drew.drewN qd) os:=⟨_,rfl⟩
    rw [← hw4] at HP4 HG4 hHeld ⊢
    clear hw4 hHeld HS HP HG
    go_wp2_with (fail)
    ·go_roundg (j-(c+1))
     case rel=>exact ⟨c+1,j,rfl,rfl,Nat.le_refl _,by have:=HC1.out;omega,hid (by have:=HC1.out;have:=HI.out;omega),HP4,HG4⟩
     case measure=>have:=HC1.out;omega
    ·go_roundg (c-i)
     case rel=>exact ⟨i,c,rfl,rfl,Nat.le_refl _,by have:=HC1.out;omega,hid (by have:=HC1.out;have:=HI.out;omega),HP4,HG4⟩
     case measure=>have:=HC1.out;have:=HLT.out;omega
   ·have d2:decide ((i:Int)<(j:Int))=false:=decide_eq_false (by omega)
    have i1:(i:Int)≤100000:=by omega
    have HIB:=hid (show i≤m by omega)
    go_wp2_with (fail)
    clear hlt
    have HG1:=HG
    have HP1:=HP
    clear HG HP
    go_loopg [17] (m-i) (fun kq v17 w'=>∃ (k:Nat),v17=.int .i64 k∧k≤i+kq∧i≤k∧Hid (k≤m)∧Hid (PermAt g cap base N L w')∧Aside0 (w.grownBy w' (some g)))
    case atStart=>exact ⟨m,rfl,by have:=HIB.out;omega,HIB.out,hid (Nat.le_refl _),HP1,HG1⟩
    case round =>
     clear HP1 HG1
     obtain ⟨k,rfl,hkk,hki,HAK,HP,HG⟩:=hrel
     by_cases hlt:i<k
     ·have d3:decide ((i:Int)<(k:Int))=true:=decide_eq_true (by omega)
      have HLT:=hid hlt
      have hiN:=HAK.out
      obtain ⟨q,hq⟩:∃ q,q=k-1:=⟨_,rfl⟩
      have eq:(k:Int)-1=(q:Int):=by omega
      obtain ⟨L',h1,h2,h3⟩:=HP.out
      have HR:=Aside0.mk h3
      have HPM:=hid h1
      have HLN:=hid h2
      have hpN:k<N:=by omega
      have hqN:q<N:=by omega
      have hx:=elem_cells h3 k hpN
      have hy:=elem_cells h3 q hqN
      have hfz:∀ o,wr.frozen? ⟨g,o,none⟩=false:=by
       obtain ⟨cells,hc⟩:=Kd.R_typed h3 g rfl
       exact fun o=>blk_frozen hc _
      obtain ⟨x,hxx⟩:∃ x,x=rd_Slt L' (k:Int):=⟨_,rfl⟩
      obtain ⟨y,hyy⟩:∃ y,y=rd_Slt L' (q:Int):=⟨_,rfl⟩
      rw [← hxx] at hx
      rw [← hyy] at hy
      have HXX:=hid hxx
      have HYY:=hid hyy
      have HS:=hid (show wr.drew.cell? ⟨g,k*4,none⟩=some (.int .i64 x.j)∧wr.drew.cell? ⟨g,k*4+1,none⟩=some (.int .i64 x.b)∧wr.drew.cell? ⟨g,k*4+2,none⟩=some (.int .i64 x.f)∧wr.drew.cell? ⟨g,k*4+3,none⟩=some (.int .i64 x.t)∧wr.drew.cell? ⟨g,q*4,none⟩=some (.int .i64 y.j)∧wr.drew.cell? ⟨g,q*4+1,none⟩=some (.int .i64 y.b)∧wr.drew.cell? ⟨g,q*4+2,none⟩=some (.int .i64 y.f)∧wr.drew.cell? ⟨g,q*4+3,none⟩=some (.int .i64 y.t) from ⟨hx.1,hx.2.1,hx.2.2.1,hx.2.2.2,hy.1,hy.2.1,hy.2.2.1,hy.2.2.2⟩)
      obtain ⟨hx0,hx1,hx2,hx3⟩:=hx
      obtain ⟨hy0,hy1,hy2,hy3⟩:=hy
      clear h1 h2 h3 HP hxx hyy
      have q0:(0:Int)≤(q:Int):=by omega
      have k0:(0:Int)≤(k:Int):=by omega
      have q1:(q:Int)<(N:Int):=by omega
      have k1:(k:Int)<(N:Int):=by omega
      have HQE:=hid hq
      have wq:wrap64 (q:Int)=(q:Int):=w64_in _ (by omega) (by omega)
      clear hq
      go_upto_region 23 with (fail)
      refine start_ (n:=18) (S:=fun w'=>w'.cell? ⟨g,k*4,none⟩=some (.int .i64 x.j)∧w'.cell? ⟨g,k*4+1,none⟩=some (.int .i64 x.b)∧w'.cell? ⟨g,k*4+2,none⟩=some (.int .i64 x.f)∧w'.cell? ⟨g,k*4+3,none⟩=some (.int .i64 x.t)∧w'.cell? ⟨g,q*4,none⟩=some (.int .i64 y.j)∧w'.cell? ⟨g,q*4+1,none⟩=some (.int .i64 y.b)∧w'.cell? ⟨g,q*4+2,none⟩=some (.int .i64 y.f)∧w'.cell? ⟨g,q*4+3,none⟩=some (.int .i64 y.t)) (ds:=[15,17]) #[false,false,false,false,false,false,false,false,false,false,false,false,false,false,false,false,false,false] (by kernel_rfl) rfl rfl HS.out (fun hHeld=>?_)
      refine pure_ (i:=0) (N:=some 113) (v:=?_) (a':=?_) #[true,false,false,false,false,false,false,false,false,false,false,false,false,false,false,false,false,false] rfl rfl (by kernel_rfl) (fun _ _ _ h=>h) (Or.inl ⟨by rfl,?_⟩) ?_ ?_
      rotate_left
      ·intro w'
       go_simp
       with_reducible rfl
      rotate_left
      ·simp only [Act.put,sp__,i64_w,i32_w]
       rfl
      refine pure_ (i:=1) (N:=some 114) (v:=?_) (a':=?_) #[true,true,false,false,false,false,false,false,false,false,false,false,false,false,false,false,false,false] rfl rfl (by kernel_rfl) (fun _ _ _ h=>h) (Or.inl ⟨by rfl,?_⟩) ?_ ?_
      rotate_left
      ·intro w'
       go_simp
       with_reducible rfl
      rotate_left
      ·simp only [Act.put,sp__,i64_w,i32_w]
       rfl
      refine pure_ (i:=2) (N:=some 115) (v:=?_) (a':=?_) #[true,true,true,false,false,false,false,false,false,false,false,false,false,false,false,false,false,false] rfl rfl (by kernel_rfl) (fun _ _ _ h=>h) (Or.inl ⟨by rfl,?_⟩) ?_ ?_
      rotate_left
      ·intro w'
       go_simp
       with_reducible rfl
      rotate_left
      ·simp only [Act.put,sp__,i64_w,i32_w]
       rfl
      refine pure_ (i:=3) (N:=some 116) (v:=?_) (a':=?_) #[true,true,true,true,false,false,false,false,false,false,false,false,false,false,false,false,false,false] rfl rfl (by kernel_rfl) (fun _ _ _ h=>h) (Or.inl ⟨by rfl,?_⟩) ?_ ?_
      rotate_left
      ·intro w'
       go_simp
       with_reducible rfl
      rotate_left
      ·simp only [Act.put,sp__,i64_w,i32_w]
       rfl
      refine pure_ (i:=4) (N:=some 117) (v:=?_) (a':=?_) #[true,true,true,true,true,false,false,false,false,false,false,false,false,false,false,false,false,false] rfl rfl (by kernel_rfl) (fun _ _ _ h=>h) (Or.inl ⟨by rfl,?_⟩) ?_ ?_
      rotate_left
      ·intro w'
       go_simp
       with_reducible rfl
      rotate_left
      ·simp only [Act.put,sp__,i64_w,i32_w]
       rfl
      refine pure_ (i:=5) (N:=some 118) (v:=?_) (a':=?_) #[true,true,true,true,true,true,false,false,false,false,false,false,false,false,false,false,false,false] rfl rfl (by kernel_rfl) (fun _ _ _ h=>h) (Or.inl ⟨by rfl,?_⟩) ?_ ?_
      rotate_left
      ·intro w'
       go_simp
       with_reducible rfl
      rotate_left
      ·simp only [Act.put,sp__,i64_w,i32_w]
       rfl
      refine pure_ (i:=6) (N:=some 119) (v:=?_) (a':=?_) #[true,true,true,true,true,true,true,false,false,false,false,false,false,false,false,false,false,false] rfl rfl (by kernel_rfl) (fun _ _ _ h=>h) (Or.inl ⟨by rfl,?_⟩) ?_ ?_
      rotate_left
      ·intro w'
       go_simp
       with_reducible rfl
      rotate_left
      ·simp only [Act.put,sp__,i64_w,i32_w]
       rfl
      refine pure_ (i:=7) (N:=some 120) (v:=?_) (a':=?_) #[true,true,true,true,true,true,true,true,false,false,false,false,false,false,false,false,false,false] rfl rfl (by kernel_rfl) (fun _ _ _ h=>h) (Or.inl ⟨by rfl,?_⟩) ?_ ?_
      rotate_left
      ·intro w'
       go_simp
       with_reducible rfl
      rotate_left
      ·simp only [Act.put,sp__,i64_w,i32_w]
       rfl
      refine pure_ (i:=8) (N:=some 121) (v:=?_) (a':=?_) #[true,true,true,true,true,true,true,true,true,false,false,false,false,false,false,false,false,false] rfl rfl (by kernel_rfl) (fun _ _ _ h=>h) (Or.inl ⟨by rfl,?_⟩) ?_ ?_
      rotate_left
      ·intro w'
       go_simp
       with_reducible rfl
      rotate_left
      ·simp only [Act.put,sp__,i64_w,i32_w]
       rfl
      refine take_ (i:=9) (N:=some 122) (v:=?_) (a':=?_) #[true,true,true,true,true,true,true,true,true,true,false,false,false,false,false,false,false,false] rfl rfl (by kernel_rfl) (fun _ _ _ h=>h) (Or.inl ⟨by rfl,?_⟩) hHeld ?_ ?_
      rotate_left
      ·rintro w' ⟨s0,s1,s2,s3,s4,s5,s6,s7⟩
       go_simp
       with_reducible rfl
      rotate_left
      ·simp only [Act.put,sp__,i64_w,i32_w]
       rfl
      refine pure_ (i:=10) (N:=some 123) (v:=?_) (a':=?_) #[true,true,true,true,true,true,true,true,true,true,true,false,false,false,false,false,false,false] rfl rfl (by kernel_rfl) (fun _ _ _ h=>h) (Or.inl ⟨by rfl,?_⟩) ?_ ?_
      rotate_left
      ·intro w'
       go_simp
       with_reducible rfl
      rotate_left
      ·simp only [Act.put,sp__,i64_w,i32_w]
       rfl
      refine pure_ (i:=11) (N:=some 124) (v:=?_) (a':=?_) #[true,true,true,true,true,true,true,true,true,true,true,true,false,false,false,false,false,false] rfl rfl (by kernel_rfl) (fun _ _ _ h=>h) (Or.inl ⟨by rfl,?_⟩) ?_ ?_
      rotate_left
      ·intro w'
       go_simp
       with_reducible rfl
      rotate_left
      ·simp only [Act.put,sp__,i64_w,i32_w]
       rfl
      refine pure_ (i:=12) (N:=some 125) (v:=?_) (a':=?_) #[true,true,true,true,true,true,true,true,true,true,true,true,true,false,false,false,false,false] rfl rfl (by kernel_rfl) (fun _ _ _ h=>h) (Or.inl ⟨by rfl,?_⟩) ?_ ?_
      rotate_left
      ·intro w'
       go_simp
       with_reducible rfl
      rotate_left
      ·simp only [Act.put,sp__,i64_w,i32_w]
       rfl
      refine take_ (i:=13) (N:=some 126) (v:=?_) (a':=?_) #[true,true,true,true,true,true,true,true,true,true,true,true,true,true,false,false,false,false] rfl rfl (by kernel_rfl) (fun _ _ _ h=>h) (Or.inl ⟨by rfl,?_⟩) hHeld ?_ ?_
      rotate_left
      ·rintro w' ⟨s0,s1,s2,s3,s4,s5,s6,s7⟩
       go_simp
       with_reducible rfl
      rotate_left
      ·simp only [Act.put,sp__,i64_w,i32_w]
       rfl
      refine pure_ (i:=14) (N:=some 127) (v:=?_) (a':=?_) #[true,true,true,true,true,true,true,true,true,true,true,true,true,true,true,false,false,false] rfl rfl (by kernel_rfl) (fun _ _ _ h=>h) (Or.inl ⟨by rfl,?_⟩) ?_ ?_
      rotate_left
      ·intro w'
       go_simp
       with_reducible rfl
      rotate_left
      ·simp only [Act.put,sp__,i64_w,i32_w]
       rfl
      refine last_ (i:=15) (N:=none) #[true,true,true,true,true,true,true,true,true,true,true,true,true,true,true,true,false,false] rfl rfl (by kernel_rfl) (by decide) (fun K hK=>?_)
      refine skip_ (w1:=?_) (by rfl) rfl ?_ ?_
      rotate_left
      ·go_simp
       rfl
      refine hK.out _ _ ?_
      clear hK K
      obtain ⟨r1,g1⟩:=put_elem HR.out k hpN y
      have r1d:=Kd.R_drew r1
      obtain ⟨z0,z1,z2,z3⟩:=elem_cells r1d q hqN
      have fz1:∀ o,(((((wr.setCell ⟨g,k*4,none⟩ (.int .i64 y.j)).setCell ⟨g,k*4+1,none⟩ (.int .i64 y.b)).setCell ⟨g,k*4+2,none⟩ (.int .i64 y.f)).setCell ⟨g,k*4+3,none⟩ (.int .i64 y.t)).drew).frozen? ⟨g,o,none⟩=false:=(by obtain ⟨cells,hc⟩:=Kd.R_typed r1d g rfl;exact fun o=>blk_frozen hc _)
      have HG1:=Aside0.mk (grown_drew g1)
      have HR1:=Aside0.mk r1d
      clear r1 g1 r1d
      generalize hw1:((((wr.setCell ⟨g,k*4,none⟩ (.int .i64 y.j)).setCell ⟨g,k*4+1,none⟩ (.int .i64 y.b)).setCell ⟨g,k*4+2,none⟩ (.int .i64 y.f)).setCell ⟨g,k*4+3,none⟩ (.int .i64 y.t)).drew=w1 at HG1 HR1 z0 z1 z2 z3 fz1 ⊢
      clear hw1
      refine pure_ (i:=16) (N:=some 128) (v:=?_) (a':=?_) #[true,true,true,true,true,true,true,true,true,true,true,true,true,true,true,true,true,false] rfl rfl (by kernel_rfl) (fun _ _ _ h=>h) (Or.inl ⟨by rfl,?_⟩) ?_ ?_
      rotate_left
      ·intro w'
       go_simp
       with_reducible rfl
      rotate_left
      ·simp only [Act.put,sp__,i64_w,i32_w]
       rfl
      refine last_ (i:=17) (N:=none) #[true,true,true,true,true,true,true,true,true,true,true,true,true,true,true,true,true,true] rfl rfl (by kernel_rfl) (by decide) (fun K hK=>?_)
      refine skip_ (w1:=?_) (by rfl) rfl ?_ ?_
      rotate_left
      ·go_simp
       rfl
      refine hK.out _ _ ?_
      clear hK K
      refine done_ (by kernel_rfl) ?_
      obtain ⟨r2,g2⟩:=put_elem HR1.out q hqN x
      have e:∀ (k:Nat) (hk:k<L'.length),rd_Slt L' (k:Int)=L'[k]:=fun k hk=>by
       unfold rd_Slt;rw [Int.toNat_natCast,List.getD_eq_getElem?_getD,List.getElem?_eq_getElem hk];rfl
      have HL2:=hid (show PermAt g cap base N L _ from ⟨_,by
       rw [HXX.out,HYY.out,e k (by rw [HLN.out];exact hpN),e q (by rw [HLN.out];exact hqN)]
       exact (swap_list L' k q (by rw [HLN.out];exact hpN) (by rw [HLN.out];exact hqN)).trans HPM.out,by rw [List.length_set,List.length_set,HLN.out],r2⟩)
      have HG2:=Aside0.mk ((HG.out.trans HG1.out).trans g2)
      clear r2 g2
      clear wq eq
      have k2:(1:Int)≤(k:Int):=by have:=HLT.out;omega
      go_wp2_with (fail)
      go_roundg (q-i)
      case rel=>exact ⟨q,congrArg (Value.int .i64) (show (k:Int)-1=(q:Int) by have:=HQE.out;have:=HLT.out;omega),by have:=HQE.out;have:=HLT.out;omega,by have:=HQE.out;have:=HLT.out;omega,hid (by have:=HQE.out;have:=HAK.out;omega),HL2,HG2⟩
      case measure=>have:=HQE.out;have:=HLT.out;omega
     ·have d3:decide ((i:Int)<(k:Int))=false:=decide_eq_false (by omega)
      go_wp2_with (fail)
      (try simp only [Exit.inBlock,Exit.then])
      refine bodyPost_ret (results_none rfl _ _ _) rfl ?_
      exact ⟨rfl,HP.out,HG.out⟩
end Go.Proofs.YtiioklboaookiaaGreatDoor.Q
namespace Go.Proofs.YtiioklboaookiaaGreatDoor.Q
open Go.RowKit Go.Proofs.YtiioklboaookiaaGreatDoorW.PrintWords Go.Proofs.YtiioklboaookiaaGreatDoorW.PrintLast Go.Proofs.YtiioklboaookiaaGreatDoor.Hand Go.Proofs.YtiioklboaookiaaGreatDoorW.PrintMore
attribute [local go_sem] max2_int min2_int max_two min_two max_three min_three max_four min_four
set_option linter.unusedVariables false
set_option linter.unusedSimpArgs false
set_option maxHeartbeats 8000000 in
set_option maxRecDepth 100000 in
theorem rotate_walk (fn:Value) (g cap base N:Nat) (L:List Slt) (w:World) (a m b:Nat) (h:PermAt g cap base N L w) (ham:a<m) (hmb:m<b) (hb:b≤N) (hN:N≤100000) :
  Calls Tryz.prog 183 #[.slice (some ⟨g,0,none⟩) N cap,.int .i64 a,.int .i64 m,.int .i64 b,fn] w fun e w'=>e=.returned (.tuple #[])∧PermAt g cap base N L w'∧w.grownBy w' (some g):=by
 have HP0:=hid h
 have HG0:Aside0 (w.grownBy w (some g)):=⟨World.grownBy.refl w _⟩
 clear h
 have HI0:=hid (show 1≤m-a∧1≤b-m∧m-a≤m∧m+(b-m)≤N by omega)
 have HE1:=hid (show (m:Int)-(a:Int)=((m-a:Nat):Int) by omega)
 have HE2:=hid (show (b:Int)-(m:Int)=((b-m:Nat):Int) by omega)
 go_enter Tryz.func183,Tryz.ntmps183
 go_wp2_with (fail)
 go_loopg [10,11] (m-a+(b-m)) (fun kq v10 v11 w'=>∃ (i j:Nat),v10=.int .i64 i∧v11=.int .i64 j∧i+j≤kq∧Hid (1≤i∧1≤j∧i≤m∧m+j≤N)∧Hid (PermAt g cap base N L w')∧Aside0 (w.grownBy w' (some g)))
 case atStart=>exact ⟨m-a,b-m,congrArg (Value.int .i64) HE1.out,congrArg (Value.int .i64) HE2.out,Nat.le_refl _,HI0,HP0,HG0⟩
 case round =>
  clear HP0 HG0 HI0
  obtain ⟨i,j,rfl,rfl,hk,HI,HP,HG⟩:=hrel
  obtain ⟨hi1,hj1,him,hjN⟩:=HI.out
  by_cases hij:i=j
  ·have d1:((i:Int) != (j:Int))=false:=by rw [bne_eq_false_iff_eq];omega
   have hsw:=swapR_walk fn g cap base N L wr (m-i) m i HP.out (by omega) (by omega) hN
   rw [show ((m-i:Nat):Int)=(m:Int)-(i:Int) by omega] at hsw
   have HSW:=hid hsw
   clear hsw
   clear hij HI
   go_wp2_with (fail)
   refine HSW.out.mono ?_
   rintro e w2 ⟨rfl,hP2,hg2⟩
   have HP2:=hid hP2
   have HG2:=Aside0.mk (HG.out.trans hg2)
   clear hP2 hg2 HSW
   go_wp2_with (fail)
   go_end0
   exact ⟨rfl,HP2.out,HG2.out⟩
  ·have d1:((i:Int) != (j:Int))=true:=bne_iff_ne.2 (by omega)
   by_cases hgt:j<i
   ·have d2:decide ((j:Int)<(i:Int))=true:=decide_eq_true (by omega)
    have hsw:=swapR_walk fn g cap base N L wr (m-i) m j HP.out (by omega) (by omega) hN
    rw [show ((m-i:Nat):Int)=(m:Int)-(i:Int) by omega] at hsw
    have HSW:=hid hsw
    clear hsw
    have HI2:=hid (show 1≤i-j∧1≤j∧i-j≤m∧m+j≤N by omega)
    have hk2:i-j+j<i+j:=by omega
    have HK:=hid hk2
    have HE:=hid (show (i:Int)-(j:Int)=((i-j:Nat):Int) by omega)
    clear hij HI hk2
    go_wp2_with (fail)
    refine HSW.out.mono ?_
    rintro e w3 ⟨rfl,hP2,hg2⟩
    have HP2:=hid hP2
    have HG2:=Aside0.mk (HG.out.trans hg2)
    clear hP2 hg2 HSW
    go_wp2_with (fail)
    go_roundg (i-j+j)
    case rel=>exact ⟨i-j,j,congrArg (Value.int .i64) HE.out,rfl,Nat.le_refl _,HI2,HP2,HG2⟩
    case measure=>exact Nat.lt_of_lt_of_le HK.out hk
   ·have d2:decide ((j:Int)<(i:Int))=false:=decide_eq_false (by omega)
    have hsw:=swapR_walk fn g cap base N L wr (m-i) (m+j-i) i HP.out (by omega) (by omega) hN
    rw [show ((m-i:Nat):Int)=(m:Int)-(i:Int) by omega,show ((m+j-i:Nat):Int)=(m:Int)+(j:Int)-(i:Int) by omega] at hsw
    have HSW:=hid hsw
    clear hsw
    have HI2:=hid (show 1≤i∧1≤j-i∧i≤m∧m+(j-i)≤N by omega)
    have HK:=hid (show i+(j-i)<i+j by omega)
    have HE:=hid (show (j:Int)-(i:Int)=((j-i:Nat):Int) by omega)
    clear hij HI
    go_wp2_with (fail)
    refine HSW.out.mono ?_
    rintro e w3 ⟨rfl,hP2,hg2⟩
    have HP2:=hid hP2
    have HG2:=Aside0.mk (HG.out.trans hg2)
    clear hP2 hg2 HSW
    go_wp2_with (fail)
    go_roundg (i+(j-i))
    case rel=>exact ⟨i,j-i,rfl,congrArg (Value.int .i64) HE.out,Nat.le_refl _,HI2,HP2,HG2⟩
    case measure=>exact Nat.lt_of_lt_of_le HK.out hk
end Go.Proofs.YtiioklboaookiaaGreatDoor.Q
