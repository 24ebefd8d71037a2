/- TopSlots: whatever the input, the law returns true; no condition. -/
import Derived.Test.YtiioklboaookiaaGreatDoorRows
import Derived.Test.YtiioklboaookiaaGreatDoorCards
import Derived.Test.YtiioklboaookiaaGreatDoorTie
import Derived.WalkKit
import Derived.ProofKit
import Derived.OpenShut
import Derived.ShutString
import Derived.ChangeOld
import Derived.Below
import Derived.SizedLaws
import Derived.LaidMore
import Derived.Deep.SlicePairs
import Derived.Deep.Strs
import Derived.Lib.SmallJoins
import Derived.Stop.Joined
import Derived.SevenTiedAt
import Derived.Test.YtiioklboaookiaaGreatDoorV12
namespace Go.Proofs.YtiioklboaookiaaGreatDoor.topSlots
open Go.ChangeShapes Go.WideShapes Go.ChangeAt Go.RowKit Go.Proofs.YtiioklboaookiaaGreatDoorW.PrintWords Go.Proofs.YtiioklboaookiaaGreatDoor.Q
set_option linter.unusedVariables false
theorem list2_of {α:Type} {l:List α} (h:l.length=2):∃ a b,l=[a,b]:=by
 match l,h with
 | [a,b],_=>exact ⟨a,b,rfl⟩
theorem list3_of {α:Type} {l:List α} (h:l.length=3):∃ a b c,l=[a,b,c]:=by
 match l,h with
 | [a,b,c],_=>exact ⟨a,b,c,rfl⟩
theorem cells3_of {W:World} {x:Addr} {j:Nat} {v0 v1 v2:Value} (c0:W.cell? (x.add (j*3+0))=some v0) (c1:W.cell? (x.add (j*3+1))=some v1) (c2:W.cell? (x.add (j*3+2))=some v2) (i:Nat) (u:Value) (hu:[v0,v1,v2][i]?=some u):W.cell? (x.add (j*3+i))=some u:=by
 match i with
 | 0=>injection hu with hu;subst hu;exact c0
 | 1=>injection hu with hu;subst hu;exact c1
 | 2=>injection hu with hu;subst hu;exact c2
 | i+3=>simp at hu
theorem own:ownKnob Tryz.prog.godebug=none:=by kernel_rfl
theorem laidOut:laidOutB Tryz.prog=true:=by kernel_rfl
theorem gNone : Tryz.prog.globalNamed "silverside/bench.none" = some 0 := by kernel_rfl
theorem tNone:(Tryz.prog.globals[0]?).map (·.type)=some 218:=by kernel_rfl
theorem door_met (os:Os) (args:Array Value):laidMetH Tryz.prog Rows.topSlotsRow.laid ((World.doorLaid Tryz.prog 14 os).forCall (fun _ _=>0) ⟨#[],args,[]⟩).memory :=
 laidMetH_of_parts3 (fuel:=8) (laidMet_of_run' 8 (by kernel_rfl) (by kernel_rfl)) (by kernel_rfl) (by kernel_rfl)
theorem of_laid {W:World} (h:laidMetH Tryz.prog Rows.topSlotsRow.laid W):NoneAt W:=by
 rw [MakeChecks.laidMetH_plain _ _ _ (by kernel_rfl)] at h
 obtain ⟨ps,⟨g0,t0,cs0,f0,p0,q0,hg0,ht0,hv0,hd0,_⟩,_,_⟩:=h
 obtain rfl:=Option.some.inj (gNone.symm.trans hg0)
 obtain rfl:=Option.some.inj (tNone.symm.trans ht0)
 obtain ⟨y0,y1,n,hx,hl,h0,h1⟩:=trod_struct2 Tryz.underlying218 hd0
 have c3:Tryz.prog.cellsOf 218=2:=by kernel_rfl
 have c1:Tryz.prog.cellsOf 3=1:=by kernel_rfl
 rw [c3] at hl
 obtain ⟨l0⟩:=cs0
 obtain ⟨a,b,e⟩:=list2_of (l:=l0) hl
 subst e
 have h0' : DataW.trod _ Tryz.prog W 0 _ false n 3 (([a,b].drop 0).take (Tryz.prog.cellsOf 3))=some y0:=h0
 have h1' : DataW.trod _ Tryz.prog W 0 _ false n 3 (([a,b].drop 1).take (Tryz.prog.cellsOf 3))=some y1:=h1
 rw [c1] at h0' h1'
 obtain ⟨k0,e0,f0,_⟩:=DataW.trod_int Tryz.underlying3 h0'
 obtain ⟨k1,e1,f1,_⟩:=DataW.trod_int Tryz.underlying3 h1'
 subst f0 f1
 have hd:DataW.agg [DataW.lit (.int .i64 (-1)),DataW.lit (.int .i64 (-1))]=DataW.agg [DataW.lit (.int .i64 k0),DataW.lit (.int .i64 k1)]:=(Prod.mk.inj hx).1
 simp at hd e0 e1
 obtain ⟨rfl,rfl⟩:=hd
 subst e0 e1
 exact ⟨World.var?_cell hg0 hv0 0,World.var?_cell hg0 hv0 1⟩
theorem open_jobs {H:Type} {enc:TypeId × Value→H} {W:World} {v:Value} {d:DataW H} {ps:List MemPlace} (h:DataW.Trod enc Tryz.prog W 0 (fun _=>true) true 44 v d ps) (hc1:v.cells=#[v]) :
  ∃ (a:Option Addr) (l:List S76) (cap:Nat),v=.slice a l.length cap∧l.length≤cap∧Kd.C k76 W a l.length l:=by
 obtain ⟨n,hf⟩:=h
 rw [hc1] at hf
 rcases Go.Deep.open_slice Tryz.underlying44 hf with ⟨hcs,_⟩ | ⟨x,len,cap,m,n,D,Pl,hcs,hb,hl,hm,hmm,hx,hcell⟩
 ·obtain rfl:=List.head_eq_of_cons_eq hcs
  exact ⟨none,[],0,rfl,Nat.le_refl _,Kd.C_nil _ _⟩
 ·obtain rfl:=List.head_eq_of_cons_eq hcs
  have hlm:len≤m:=by
   rw [hmm]
   split
   ·exact hl
   ·exact Nat.le_refl _
  have ce:Tryz.prog.cellsOf 46=3:=by kernel_rfl
  have c1:Tryz.prog.cellsOf 3=1:=by kernel_rfl
  have each:∀ i,i<len→∃ s:S76,W.cell? (x.add (i*3+0))=some (.int .i64 s.f0)∧W.cell? (x.add (i*3+1))=some (.int .i64 s.f1)∧W.cell? (x.add (i*3+2))=some (.int .i64 s.f2):=by
   intro i hi
   obtain ⟨cs',h1,h2⟩:=hcell i (by omega)
   rw [ce] at h1
   obtain ⟨_,hlen,hc⟩:=World.cells?_some h1
   obtain ⟨y0,y1,y2,k,_,_,g0,g1,g2⟩:=Go.Deep.trod_struct3 Tryz.underlying46 h2
   obtain ⟨v0,v1,v2,e⟩:=list3_of (l:=cs') hlen
   subst e
   have g0' : DataW.trod enc Tryz.prog W 0 _ true k 3 (([v0,v1,v2].drop 0).take (Tryz.prog.cellsOf 3))=some y0:=g0
   have g1' : DataW.trod enc Tryz.prog W 0 _ true k 3 (([v0,v1,v2].drop 1).take (Tryz.prog.cellsOf 3))=some y1:=g1
   have g2' : DataW.trod enc Tryz.prog W 0 _ true k 3 (([v0,v1,v2].drop 2).take (Tryz.prog.cellsOf 3))=some y2:=g2
   rw [c1] at g0' g1' g2'
   obtain ⟨z0,e0,_,_⟩:=DataW.trod_int Tryz.underlying3 g0'
   obtain ⟨z1,e1,_,_⟩:=DataW.trod_int Tryz.underlying3 g1'
   obtain ⟨z2,e2,_,_⟩:=DataW.trod_int Tryz.underlying3 g2'
   simp at e0 e1 e2
   subst e0 e1 e2
   have a0:=hc 0 (by omega)
   have a1:=hc 1 (by omega)
   have a2:=hc 2 (by omega)
   rw [add_add] at a0 a1 a2
   exact ⟨⟨z0,z1,z2⟩,a0,a1,a2⟩
  obtain ⟨F,hF⟩:∃ F:Nat→S76,∀ i,i<len→W.cell? (x.add (i*3+0))=some (.int .i64 (F i).f0)∧W.cell? (x.add (i*3+1))=some (.int .i64 (F i).f1)∧W.cell? (x.add (i*3+2))=some (.int .i64 (F i).f2):=by
   refine ⟨fun i=>if h:i<len then Classical.choose (each i h) else z76,fun i hi=>?_⟩
   simp only [dif_pos hi];exact Classical.choose_spec (each i hi)
  refine ⟨some x,(List.range len).map F,cap,by simp,by simpa using hl,?_⟩
  have hmax:maxLen=9223372036854775807:=rfl
  refine ⟨rfl,by simp;omega,fun _=>⟨x,rfl,fun j s hj=>?_⟩⟩
  rw [List.getElem?_map] at hj
  by_cases hjl:j<len
  ·rw [List.getElem?_range hjl] at hj
   obtain rfl:=Option.some.inj hj
   obtain ⟨c0,c1,c2⟩:=hF j hjl
   exact ⟨_,rfl,k76_mk _ _,cells3_of c0 c1 c2⟩
  ·rw [List.getElem?_eq_none (by simpa using hjl)] at hj;simp at hj
set_option maxRecDepth 100000 in
theorem lifted (os:Os) (started:os.Started) (H:Type) (enc:TypeId × Value→H) :
  ReturnsInHanded {} Tryz.checked os 6 .any (fun w args=>(Rows.topSlotsSpec.pre enc Tryz.prog Tryz.f6 [] false w args∧laidMetH Tryz.prog Rows.topSlotsRow.laid w)∧sizedMet enc Tryz.prog Tryz.f6 (OpenSpec.ofChange Rows.topSlotsSpec) false w args)
   (Rows.topSlotsSpec.post enc Tryz.prog Tryz.f6 false true false false):=by
 refine returnsInHanded_of_change_and (C:=Tryz.checked) (X:=fun w _=>laidMetH Tryz.prog Rows.topSlotsRow.laid w) (fun _ _ _ hh h=>h.of_heap hh) own started (by kernel_rfl) Tryz.func6
  (ChangeSpec.witness_shaped (enc:=enc) (C:=Tryz.checked) (os:=os) (X:=fun w _=>laidMetH Tryz.prog Rows.topSlotsRow.laid w) false (World.doorLaid Tryz.prog 14 os) #[.int .i64 0,.slice none 0 0] 8 rfl (World.shaped_of_RefB (by kernel_rfl) (by kernel_rfl)) (by kernel_rfl) (by kernel_rfl) (by kernel_rfl) (door_met os _)) ?_
 intro W base args ds gs before hval0 hW _ _ hL _
 have hval:∀ (j:Nat) t v,Tryz.f6.params[j]?=some t→args[j]?=some v→Value.okWide Tryz.prog W .any base t v:=hval0
 have hW':=hW
 obtain ⟨p,q,hA0,hV,rfl,hfz,hnd⟩:=hW
 have hA:DataW.TrodAll enc Tryz.prog W 0 (fun _=>true) true Tryz.f6.params.toList args.toList ds p:=hA0
 rw [Tryz.params6] at hA hval
 obtain ⟨v0,vs0,d0,ds0,p0,q0,hargs,rfl,rfl,h0,r0⟩:=trodAll_cons hA
 obtain ⟨v1,vs1,d1,ds1,p1,q1,rfl,rfl,rfl,h1,r1⟩:=trodAll_cons r0
 obtain ⟨rfl,rfl,rfl⟩:=trodAll_nil r1
 obtain rfl:args=#[v0,v1]:=by cases args;simp_all
 obtain ⟨rfl,rfl⟩:=trodVars_none hV
 have k1:=h1
 have lt1:∀ x ∈ p1,x.block<W.heap.size:=by obtain ⟨m,hm⟩:=k1;exact DataW.trod_lt m _ _ _ hm
 obtain ⟨a0,rfl,rfl,rfl,w0⟩:=open_int Tryz.underlying3 (hval 0 3 v0 rfl rfl) h0
 obtain ⟨a1,len1,cap1,rfl⟩:=okWide_slice Tryz.underlying44 (hval 1 44 v1 rfl rfl)
 obtain ⟨A1,l1,c1,he1,hc1,hr1⟩:=open_jobs h1 rfl
 cases he1
 clear hA0 hval0
 have hl1:l1.length≤9223372036854775807:=hr1.2.1
 refine (TopSlots_walk a0 l1 _ _ W hl1 hr1 (of_laid hL)).mono fun e W' ⟨he,bel⟩=>?_
 subst he
 exact ⟨_,rfl,_,_,_,[],_,[],hW',trodAll_mk1 (shut_bool Tryz.underlying4 _),(trodAll_cons_mk (shut_int Tryz.underlying3 w0) (trodAll_cons_mk (Below.trod laidOut (by kernel_rfl) (of_decide_eq_true (by kernel_rfl)) k1 bel lt1) trodAll_mk0)),rfl,bel.frame _,fun h=>by cases h⟩
theorem over:Rows.topSlotsRow.holds Tryz.pinned (OpenSpec.ofChange Rows.topSlotsSpec) :=
 OpenClaim.holds_of_wide 6 Tryz.f6 rfl rfl rfl rfl rfl rfl rfl ⟨rfl,rfl,rfl,rfl,rfl⟩ rfl rfl rfl rfl rfl (by kernel_rfl) Tryz.func6 (by kernel_rfl)
  (of_decide_eq_true (by kernel_rfl)) (by unfold Func.isWrapper;first|(rw [if_pos (by decide +kernel)];kernel_rfl)|(rw [if_neg (by decide +kernel)];exact ⟨rfl,rfl⟩))
  (fun os started H enc _=>lifted os started H enc)
theorem proved:Rows.TopSlotsCardSaid :=
 Claim7.holds_tied_plain_at .later [] [.data] true (true, "744520c2b6d8322e1bc1ec0f17a963318e9281c49e6ac543569704da068f76cf") false
  over (fun _ h=>by cases h) (by kernel_rfl) (fun _ h=>by cases h) topSlots_row_tie rfl ⟨rfl,rfl⟩ (by kernel_rfl) rfl
  (fun f fn hf hfn=>by
   obtain rfl : f = 6 := Option.some.inj ((show Tryz.prog.funcNamed "silverside/silversidetop.TopSlots" = some 6 by kernel_rfl).symm.trans hf) |>.symm
   obtain rfl:fn=Tryz.f6:=(Option.some.inj (Tryz.func6.symm.trans hfn)).symm
   exact ⟨by kernel_rfl,fun j t ht=>by
    rw [Tryz.params6] at ht
    have hm:t ∈ [3,44]:=by simpa using Array.mem_of_getElem? ht
    have hall:([3,44].all fun u=>!Tryz.prog.wantsStandIn u)=true:=by kernel_rfl
    exact (show Tryz.prog.wantsStandIn t=false by simpa using List.all_eq_true.1 hall t hm)⟩)
  (by kernel_rfl)
#print axioms proved
end Go.Proofs.YtiioklboaookiaaGreatDoor.topSlots
