/- A part of the proof: what the law's row needs. -/
import Derived.Shelf.SlSortCmp.WholeK
import Derived.Shelf.SlGeneric
import Derived.Ground.SlsfProg
import Derived.Ground.NamesProg
import Derived.Test.YtiioklboaookiaaGreatDoorProg
import Derived.Sort.OwnSortedInts
import Derived.Deep.QuietTactic
import Derived.BigQuiet
import Derived.Deep.RegionLawGrows
import Derived.Test.YtiioklboaookiaaGreatDoorV8
namespace Go.Proofs.YtiioklboaookiaaGreatDoor.Q
open Go.RowKit Go.Proofs.YtiioklboaookiaaGreatDoorW.PrintWords Go.Proofs.YtiioklboaookiaaGreatDoorW.PrintLast Go.Proofs.YtiioklboaookiaaGreatDoor.Hand Go.Proofs.YtiioklboaookiaaGreatDoorW.PrintMore
attribute [local go_sem] max2_int min2_int max_two min_two max_three min_three max_four min_four
set_option linter.unusedVariables false
set_option linter.unusedSimpArgs false
def posS (fr fi:Int) (s:Slt):Int:=s.b*(fi-fr)+(s.f-fr)
def endS (fr fi:Int) (s:Slt):Int:=s.b*(fi-fr)+(s.t-fr)
structure Run (k fr fi b P Q:Int) (L:List Slt):Prop where
 each:∀ s,s ∈ L→s.j=k∧b≤s.b∧fr≤s.f∧s.f<s.t∧s.t≤fi∧P≤posS fr fi s∧endS fr fi s≤Q
 ord:L.Pairwise fun s t=>endS fr fi s≤posS fr fi t
 sum:(L.map fun s=>s.t-s.f).sum=Q-P
theorem wrapJob_run (k fr fi:Int) (hft:fr<fi) (f:Nat):∀ (w b a:Int),fr≤a→a<fi→0≤w→w.toNat≤f →
  Run k fr fi b (b*(fi-fr)+(a-fr)) (b*(fi-fr)+(a-fr)+w) (wrapJob k fr fi f w b a).1 ∧
   (wrapJob k fr fi f w b a).2.1*(fi-fr)+((wrapJob k fr fi f w b a).2.2-fr)=b*(fi-fr)+(a-fr)+w∧fr≤(wrapJob k fr fi f w b a).2.2∧(wrapJob k fr fi f w b a).2.2<fi∧b≤(wrapJob k fr fi f w b a).2.1:=by
 induction f with
 | zero =>
  intro w b a h1 h2 h3 h4
  have hw:w=0:=by omega
  subst hw
  unfold wrapJob
  exact ⟨⟨fun s hs=>by simp at hs,List.Pairwise.nil,by simp <;> omega⟩,by dsimp only;omega,h1,h2,Int.le_refl _⟩
 | succ f ih =>
  intro w b a h1 h2 h3 h4
  unfold wrapJob
  by_cases hw:0<w
  ·rw [if_pos hw]
   obtain ⟨n,hn⟩:∃ n,n=(if fi-a<w then fi-a else w):=⟨_,rfl⟩
   rw [← hn]
   have hn1:1≤n∧n≤w∧a+n≤fi:=by rw [hn];split <;> omega
   clear hn
   obtain ⟨b2,hb2⟩:∃ b2,b2=(if a+n=fi then b+1 else b):=⟨_,rfl⟩
   obtain ⟨a2,ha2⟩:∃ a2,a2=(if a+n=fi then fr else a+n):=⟨_,rfl⟩
   have hpos:b2*(fi-fr)+(a2-fr)=b*(fi-fr)+(a-fr)+n∧fr≤a2∧a2<fi∧b≤b2:=by
    rw [hb2,ha2]
    split
    ·rw [Int.add_mul,Int.one_mul];omega
    ·omega
   rw [← hb2,← ha2]
   clear hb2 ha2
   obtain ⟨p1,p2,p3,p4⟩:=hpos
   obtain ⟨⟨e1,e2,e3⟩,g1,g2,g3,g4⟩:=ih (w-n) b2 a2 p2 p3 (by omega) (by omega)
   rw [p1] at e1 e3 g1
   dsimp only
   have h0:posS fr fi ⟨k,b,a,a+n⟩=b*(fi-fr)+(a-fr):=rfl
   have h9:endS fr fi ⟨k,b,a,a+n⟩=b*(fi-fr)+(a-fr)+n:=by show b*(fi-fr)+(a+n-fr)=_;omega
   refine ⟨⟨fun s hs=>?_,List.Pairwise.cons (fun t ht=>?_) e2,?_⟩,by omega,g2,g3,by omega⟩
   ·rcases List.mem_cons.1 hs with e|hs
    ·rw [e,h0,h9]
     exact ⟨rfl,Int.le_refl _,h1,by show a<a+n;omega,hn1.2.2,Int.le_refl _,by omega⟩
    ·obtain ⟨q1,q2,q3,q4,q5,q6,q7⟩:=e1 s hs
     exact ⟨q1,by omega,q3,q4,q5,by omega,by omega⟩
   ·rw [h9];exact (e1 t ht).2.2.2.2.2.1
   ·rw [List.map_cons,List.sum_cons,e3]
    show a+n-a+_=_
    omega
  ·rw [if_neg hw]
   have hw0:w=0:=by omega
   subst hw0
   exact ⟨⟨fun s hs=>by simp at hs,List.Pairwise.nil,by simp <;> omega⟩,by dsimp only;omega,h1,h2,Int.le_refl _⟩
def ApartS (s t:Slt):Prop:=(s.b≠t.b∨s.t≤t.f∨t.t≤s.f)∧(s.j≠t.j∨s.t≤t.f∨t.t≤s.f)
theorem ApartS.symm {s t:Slt} (h:ApartS s t):ApartS t s:=⟨h.1.elim (fun e=>.inl (Ne.symm e)) (fun e=>.inr e.symm),h.2.elim (fun e=>.inl (Ne.symm e)) (fun e=>.inr e.symm)⟩
theorem ord_bench {fr fi:Int} {s t:Slt} (h:endS fr fi s≤posS fr fi t):s.b≠t.b∨s.t≤t.f∨t.t≤s.f:=by
 by_cases e:s.b=t.b
 ·refine .inr (.inl ?_)
  unfold endS posS at h
  rw [e] at h;omega
 ·exact .inl e
theorem Run.apart {k fr fi b P Q:Int} {L:List Slt} (h:Run k fr fi b P Q L) (hft:fr<fi) (hw:Q-P≤fi-fr):L.Pairwise ApartS:=by
 refine (List.Pairwise.and_mem.1 h.ord).imp ?_
 rintro s t ⟨hs,ht,ho⟩
 refine ⟨ord_bench ho,.inr ?_⟩
 obtain ⟨s1,s2,s3,s4,s5,s6,s7⟩:=h.each s hs
 obtain ⟨t1,t2,t3,t4,t5,t6,t7⟩:=h.each t ht
 unfold endS posS at *
 rcases Int.lt_trichotomy s.b t.b with hb|hb|hb
 ·right
  have:(s.b+1)*(fi-fr)≤t.b*(fi-fr):=Int.mul_le_mul_of_nonneg_right (by omega) (by omega)
  rw [Int.add_mul,Int.one_mul] at this
  omega
 ·left;rw [hb] at ho;omega
 ·have:(t.b+1)*(fi-fr)≤s.b*(fi-fr):=Int.mul_le_mul_of_nonneg_right (by omega) (by omega)
  rw [Int.add_mul,Int.one_mul] at this
  omega
def lenOf (k:Int) (L:List Slt):Int:=(L.map fun s=>if s.j=k then s.t-s.f else 0).sum
theorem lenOf_app (k:Int) (a b:List Slt):lenOf k (a++b)=lenOf k a+lenOf k b:=by unfold lenOf;rw [List.map_append,List.sum_append]
theorem Run.len {k fr fi b P Q:Int} {L:List Slt} (h:Run k fr fi b P Q L) (q:Int):lenOf q L=if q=k then Q-P else 0:=by
 have hj:∀ s,s ∈ L→s.j=k:=fun s hs=>(h.each s hs).1
 have hsum:=h.sum
 clear h
 by_cases e:q=k
 ·rw [if_pos e,← hsum]
  unfold lenOf
  congr 1
  refine List.map_congr_left fun s hs=>?_
  rw [if_pos (by rw [hj s hs,e])]
 ·rw [if_neg e]
  unfold lenOf
  clear hsum
  induction L with
  | nil=>rfl
  | cons s L ih =>
   rw [List.map_cons,List.sum_cons,if_neg (by rw [hj s List.mem_cons_self];exact fun h=>e h.symm),ih (fun s hs=>hj s (List.mem_cons_of_mem _ hs))];rfl
structure Laid (fr fi:Int) (ws:List Int) (k b P Q:Int) (L:List Slt):Prop where
 each:∀ s,s ∈ L→k≤s.j∧s.j<k+ws.length∧b≤s.b∧fr≤s.f∧s.f<s.t∧s.t≤fi∧P≤posS fr fi s∧endS fr fi s≤Q
 apart:L.Pairwise ApartS
 len:∀ i,i<ws.length→lenOf (k+(i:Int)) L=ws.getD i 0
theorem wrapAll_laid (fr fi:Int) (hft:fr<fi):∀ (ws:List Int) (k b a:Int),fr≤a→a<fi→(∀ x,x ∈ ws→0≤x∧x≤fi-fr) →
  Laid fr fi ws k b (b*(fi-fr)+(a-fr)) (b*(fi-fr)+(a-fr)+ws.sum) (wrapAll fr fi ws k b a)
 | [],k,b,a,_,_,_=>⟨fun s hs=>by simp [wrapAll] at hs,List.Pairwise.nil,fun i hi=>by simp at hi⟩
 | w::ws,k,b,a,h1,h2,h3=>by
  have hw:=h3 w List.mem_cons_self
  obtain ⟨hR,g1,g2,g3,g4⟩:=wrapJob_run k fr fi hft w.toNat w b a h1 h2 hw.1 (Nat.le_refl _)
  obtain ⟨b2,hb2⟩:∃ b2,b2=(wrapW k fr fi w b a).2.1:=⟨_,rfl⟩
  obtain ⟨a2,ha2⟩:∃ a2,a2=(wrapW k fr fi w b a).2.2:=⟨_,rfl⟩
  obtain ⟨L1,hL1⟩:∃ L1,L1=(wrapW k fr fi w b a).1:=⟨_,rfl⟩
  have hR' : Run k fr fi b (b*(fi-fr)+(a-fr)) (b*(fi-fr)+(a-fr)+w) L1:=by rw [hL1];exact hR
  have g1' : b2*(fi-fr)+(a2-fr)=b*(fi-fr)+(a-fr)+w:=by rw [hb2,ha2];exact g1
  have g2' : fr≤a2:=by rw [ha2];exact g2
  have g3' : a2<fi:=by rw [ha2];exact g3
  have g4' : b≤b2:=by rw [hb2];exact g4
  have hA:=wrapAll_laid fr fi hft ws (k+1) b2 a2 g2' g3' (fun x hx=>h3 x (List.mem_cons_of_mem _ hx))
  have hs0:0≤ws.sum:=by
   clear hA
   have:∀ x,x ∈ ws→0≤x:=fun x hx=>(h3 x (List.mem_cons_of_mem _ hx)).1
   clear h3
   induction ws with
   | nil=>exact Int.le_refl _
   | cons y ws ih =>
    have h1:=this y List.mem_cons_self
    have h2:=ih (fun x hx=>this x (List.mem_cons_of_mem _ hx))
    rw [List.sum_cons];omega
  rw [g1'] at hA
  have e:wrapAll fr fi (w::ws) k b a=L1++wrapAll fr fi ws (k+1) b2 a2:=by rw [hL1,hb2,ha2];rfl
  rw [e,List.sum_cons]
  clear e hL1 hb2 ha2 hR g1 g2 g3 g4
  refine ⟨fun s hs=>?_,List.pairwise_append.2 ⟨hR'.apart hft (by omega),hA.apart,fun s hs t ht=>?_⟩,fun i hi=>?_⟩
  ·rw [List.length_cons]
   rcases List.mem_append.1 hs with hs|hs
   ·obtain ⟨q1,q2,q3,q4,q5,q6,q7⟩:=hR'.each s hs
    exact ⟨by omega,by omega,q2,q3,q4,q5,q6,by omega⟩
   ·obtain ⟨q1,q2,q3,q4,q5,q6,q7,q8⟩:=hA.each s hs
    exact ⟨by omega,by omega,by omega,q4,q5,q6,by omega,by omega⟩
  ·obtain ⟨s1,s2,s3,s4,s5,s6,s7⟩:=hR'.each s hs
   obtain ⟨t1,t2,t3,t4,t5,t6,t7,t8⟩:=hA.each t ht
   exact ⟨ord_bench (by omega:endS fr fi s≤posS fr fi t),.inl (by omega)⟩
  ·rw [lenOf_app,hR'.len]
   cases i with
   | zero =>
    rw [if_pos (by omega)]
    have hz:lenOf (k+((0:Nat):Int)) (wrapAll fr fi ws (k+1) b2 a2)=0:=by
     have hj:∀ s,s ∈ wrapAll fr fi ws (k+1) b2 a2→s.j≠k:=fun s hs=>by have:=(hA.each s hs).1;omega
     unfold lenOf
     generalize wrapAll fr fi ws (k+1) b2 a2=L at hj
     clear hA
     induction L with
     | nil=>rfl
     | cons s L ih =>
      rw [List.map_cons,List.sum_cons,if_neg (by have:=hj s List.mem_cons_self;omega),ih (fun s hs=>hj s (List.mem_cons_of_mem _ hs))];rfl
    rw [hz]
    show b*(fi-fr)+(a-fr)+w-(b*(fi-fr)+(a-fr))+0=w
    omega
   | succ i =>
    rw [if_neg (by omega)]
    have:=hA.len i (by simpa using hi)
    rw [show k+((i+1:Nat):Int)=k+1+(i:Int) by omega,this]
    show 0+ws.getD i 0=(w::ws).getD (i+1) 0
    rw [Int.zero_add];rfl
end Go.Proofs.YtiioklboaookiaaGreatDoor.Q
namespace Go.Proofs.YtiioklboaookiaaGreatDoor.Q
open Go.RowKit Go.Proofs.YtiioklboaookiaaGreatDoorW.PrintWords Go.Proofs.YtiioklboaookiaaGreatDoorW.PrintLast Go.Proofs.YtiioklboaookiaaGreatDoor.Hand Go.Proofs.YtiioklboaookiaaGreatDoorW.PrintMore
attribute [local go_sem] max2_int min2_int max_two min_two max_three min_three max_four min_four
set_option linter.unusedVariables false
set_option linter.unusedSimpArgs false
theorem span_rd (l:List S76) (i:Nat) (h:i<(spansF l).length):i+1<(timesF l).length∧rd_T34 (spansF l) (i:Int)=⟨(timesF l).getD i 0,(timesF l).getD (i+1) 0⟩:=by
 have hl:i+1<(timesF l).length:=by rw [spansF_length] at h;omega
 refine ⟨hl,?_⟩
 unfold rd_T34
 rw [Int.toNat_natCast,List.getD_eq_getElem?_getD,spansF_get l i hl,List.getD_eq_getElem?_getD,List.getD_eq_getElem?_getD,List.getElem?_eq_getElem hl,List.getElem?_eq_getElem (show i<(timesF l).length by omega)];rfl
theorem times_lt (l:List S76) (i j:Nat) (hij:i<j) (hj:j<(timesF l).length):(timesF l).getD i 0<(timesF l).getD j 0:=by
 have h:=List.pairwise_iff_getElem.1 (timesF_spec l).1 i j (by omega) hj hij
 rw [List.getD_eq_getElem?_getD,List.getD_eq_getElem?_getD,List.getElem?_eq_getElem hj,List.getElem?_eq_getElem (show i<(timesF l).length by omega)]
 exact h
theorem times_le (l:List S76) (i j:Nat) (hij:i≤j) (hj:j<(timesF l).length):(timesF l).getD i 0≤(timesF l).getD j 0:=by
 by_cases e:i=j
 ·rw [e];exact Int.le_refl _
 ·exact Int.le_of_lt (times_lt l i j (by omega) hj)
theorem times_bnd (l:List S76) (T:Int) (hv:∀ x,x ∈ l→jobOk x=true) (hT:∀ x,x ∈ l→x.f1≤T) (i:Nat) (hi:i<(timesF l).length):0≤(timesF l).getD i 0∧(timesF l).getD i 0≤T:=by
 have hm:(timesF l).getD i 0 ∈ timesF l:=by rw [List.getD_eq_getElem?_getD,List.getElem?_eq_getElem hi];exact List.getElem_mem hi
 obtain ⟨j,hj,e⟩:=((timesF_spec l).2 _).1 hm
 obtain ⟨h1,h2,h3,h4,h5⟩:=of_decide_eq_true (hv j hj)
 have:=hT j hj
 rcases e with e|e <;> rw [e] <;> omega
theorem works_bnd {b:Nat} {l:List S76} {M:Nat→Nat→Int} {sum:Int} (h:Flow b l (spansF l) M sum) (hv:∀ x,x ∈ l→jobOk x=true) (i:Nat) (hi:i<(spansF l).length):(∀ x,x ∈ worksF M l.length i→0≤x∧x≤(rd_T34 (spansF l) (i:Int)).f1-(rd_T34 (spansF l) (i:Int)).f0) ∧
  (worksF M l.length i).sum≤b*((rd_T34 (spansF l) (i:Int)).f1-(rd_T34 (spansF l) (i:Int)).f0):=by
 have hrd:(spansF l)[i]?=some (rd_T34 (spansF l) (i:Int)):=by
  unfold rd_T34;rw [Int.toNat_natCast,List.getD_eq_getElem?_getD,List.getElem?_eq_getElem hi];rfl
 obtain ⟨s,hs⟩:∃ s,s=rd_T34 (spansF l) (i:Int):=⟨_,rfl⟩
 rw [← hs] at hrd ⊢
 have hlen:lenF (spansF l) i=s.f1-s.f0:=by unfold lenF;rw [hrd];rfl
 have hpos:=spansF_ok l hv s (List.mem_of_getElem? hrd)
 refine ⟨fun x hx=>?_,?_⟩
 ·unfold worksF at hx
  obtain ⟨k,hk,rfl⟩:=List.mem_map.1 hx
  have hk':=List.mem_range.1 hk
  have h1:=h.ge k i hk' hi
  obtain ⟨h2,h3⟩:=h.cap k i hk' hi
  refine ⟨h1,?_⟩
  have h4:capF l (spansF l) k i≤s.f1-s.f0:=by
   unfold capF spanM
   rw [hrd]
   cases hlk:l[k]? with
   | none=>show (0:Int)≤_;omega
   | some j =>
    show ((if fits j s=true then some (s.f1-s.f0) else none).getD 0)≤_
    split
    ·exact Int.le_refl _
    ·show (0:Int)≤_;omega
  omega
 ·unfold worksF
  rw [sumN_range]
  obtain ⟨h1,h2⟩:=h.part i hi
  rw [hlen] at h2
  omega
structure SchedOk (b n:Nat) (T:Int) (L:List Slt):Prop where
 each:∀ s,s ∈ L→0≤s.j∧s.j<(n:Int)∧0≤s.b∧s.b<(b:Int)∧0≤s.f∧s.f<s.t∧s.t≤T
 apart:L.Pairwise ApartS
theorem sched_ok {b:Nat} {l:List S76} {M:Nat→Nat→Int} {sum T:Int} (h:Flow b l (spansF l) M sum) (hv:∀ x,x ∈ l→jobOk x=true) (hT:∀ x,x ∈ l→x.f1≤T):∀ m,m≤(spansF l).length →
  SchedOk b l.length T (schedF M l.length (spansF l) m)∧(∀ s,s ∈ schedF M l.length (spansF l) m→∃ i,i<m∧s.t≤(timesF l).getD (i+1) 0)∧∀ k,k<l.length→lenOf (k:Int) (schedF M l.length (spansF l) m)=sumN (fun i=>M (1+l.length+i) (1+k)) m:=by
 intro m
 induction m with
 | zero=>intro _;exact ⟨⟨fun s hs=>by simp [schedF] at hs,List.Pairwise.nil⟩,fun s hs=>by simp [schedF] at hs,fun _ _=>rfl⟩
 | succ m ih =>
  intro hm
  obtain ⟨⟨e1,e2⟩,e3,e4⟩:=ih (by omega)
  obtain ⟨ht,hs⟩:=span_rd l m (by omega)
  obtain ⟨w1,w2⟩:=works_bnd h hv m (by omega)
  have hlt:=times_lt l m (m+1) (by omega) ht
  obtain ⟨b0,_⟩:=times_bnd l T hv hT m (by omega)
  obtain ⟨_,b1⟩:=times_bnd l T hv hT (m+1) ht
  rw [hs] at w1 w2
  dsimp only at w1 w2
  have hA:Laid ((timesF l).getD m 0) ((timesF l).getD (m+1) 0) (worksF M l.length m) 0 0 (0*((timesF l).getD (m+1) 0-(timesF l).getD m 0)+((timesF l).getD m 0-(timesF l).getD m 0)) (0*((timesF l).getD (m+1) 0-(timesF l).getD m 0)+((timesF l).getD m 0-(timesF l).getD m 0)+(worksF M l.length m).sum) (wrapF M l.length (spansF l) m):=by
   have:=wrapAll_laid _ _ hlt (worksF M l.length m) 0 0 ((timesF l).getD m 0) (Int.le_refl _) hlt w1
   unfold wrapF
   rw [hs]
   exact this
  have hn:(worksF M l.length m).length=l.length:=worksF_length M l.length m
  have e:schedF M l.length (spansF l) (m+1)=schedF M l.length (spansF l) m++wrapF M l.length (spansF l) m:=rfl
  rw [e]
  obtain ⟨A,hAe⟩:∃ A,A=schedF M l.length (spansF l) m:=⟨_,rfl⟩
  obtain ⟨Bl,hBe⟩:∃ Bl,Bl=wrapF M l.length (spansF l) m:=⟨_,rfl⟩
  rw [← hAe] at e1 e2 e3 e4 ⊢
  rw [← hBe] at hA ⊢
  clear e hAe hBe hs w1
  obtain ⟨fr,hfr⟩:∃ fr,fr=(timesF l).getD m 0:=⟨_,rfl⟩
  obtain ⟨fi,hfi⟩:∃ fi,fi=(timesF l).getD (m+1) 0:=⟨_,rfl⟩
  rw [← hfr,← hfi] at hA w2 hlt
  rw [← hfr] at b0
  rw [← hfi] at b1
  have hq:∀ s,s ∈ Bl→0≤s.j∧s.j<(l.length:Int)∧0≤s.b∧s.b<(b:Int)∧fr≤s.f∧s.f<s.t∧s.t≤fi:=fun s hs=>by
   obtain ⟨q1,q2,q3,q4,q5,q6,q7,q8⟩:=hA.each s hs
   rw [hn] at q2
   refine ⟨q1,by omega,q3,?_,q4,q5,q6⟩
   unfold endS at q8
   refine Int.lt_of_mul_lt_mul_right (a:=fi-fr) ?_ (by omega)
   rw [Int.zero_mul] at q8
   omega
  refine ⟨⟨fun s hs=>?_,List.pairwise_append.2 ⟨e2,hA.apart,fun s hs t ht'=>?_⟩⟩,fun s hs=>?_,fun k hk=>?_⟩
  ·rcases List.mem_append.1 hs with hs|hs
   ·exact e1 s hs
   ·obtain ⟨q1,q2,q3,q4,q5,q6,q7⟩:=hq s hs
    exact ⟨q1,q2,q3,q4,by omega,q6,by omega⟩
  ·obtain ⟨i,hi,hst⟩:=e3 s hs
   obtain ⟨q1,q2,q3,q4,q5,q6,q7⟩:=hq t ht'
   have:=times_le l (i+1) m (by omega) (by omega)
   rw [← hfr] at this
   exact ⟨.inr (.inl (by omega)),.inr (.inl (by omega))⟩
  ·rcases List.mem_append.1 hs with hs|hs
   ·obtain ⟨i,hi,hst⟩:=e3 s hs
    exact ⟨i,by omega,hst⟩
   ·obtain ⟨q1,q2,q3,q4,q5,q6,q7⟩:=hq s hs
    exact ⟨m,by omega,by rw [← hfi];exact q7⟩
  ·rw [lenOf_app,e4 k hk]
   have:=hA.len k (by rw [hn];exact hk)
   rw [Int.zero_add] at this
   rw [this]
   show _=sumN _ m+_
   unfold worksF
   rw [List.getD_eq_getElem?_getD,List.getElem?_map,List.getElem?_range hk];rfl
theorem Cut.sched {b:Nat} {l:List S76} {M:Nat→Nat→Int} {T:Int} (h:Cut b l M (workF l)) (hv:∀ x,x ∈ l→jobOk x=true) (hT:∀ x,x ∈ l→x.f1≤T) :
  SchedOk b l.length T (schedF M l.length (spansF l) (spansF l).length)∧∀ k,k<l.length→lenOf (k:Int) (schedF M l.length (spansF l) (spansF l).length)=wF l k:=by
 obtain ⟨h1,_,h3⟩:=sched_ok h.flow hv hT (spansF l).length (Nat.le_refl _)
 refine ⟨h1,fun k hk=>?_⟩
 rw [h3 k hk]
 have h4:=h.flow.all
 have h5:=sumN_at (f:=fun k=>M 0 (1+k)) (n:=l.length) (fun i hi=>(h.flow.job i hi).1) (by omega) k hk
 have h6:=(h.flow.job k hk).2
 omega
theorem SchedOk.perm {b n:Nat} {T:Int} {L L' : List Slt} (h:SchedOk b n T L) (hp:L'.Perm L):SchedOk b n T L' :=
 ⟨fun s hs=>h.each s (hp.mem_iff.1 hs),(hp.pairwise_iff (fun h=>h.symm)).2 h.apart⟩
theorem lenOf_perm {L L' : List Slt} (k:Int) (hp:L'.Perm L):lenOf k L' = lenOf k L:=by
 unfold lenOf
 induction hp with
 | nil=>rfl
 | cons x _ ih=>rw [List.map_cons,List.sum_cons,ih,List.map_cons,List.sum_cons]
 | swap x y l=>simp only [List.map_cons,List.sum_cons];omega
 | trans _ _ h1 h2=>rw [h1,h2]
end Go.Proofs.YtiioklboaookiaaGreatDoor.Q
namespace Go.Proofs
open Go.Shelf
def Tryz.laysSortP_ren:Go.Shelf.Ren:=⟨fun|6=>116|15=>142|14=>141|28=>160|29=>161|20=>152|21=>153|22=>154|23=>155|24=>156|25=>157|26=>158|27=>159|46=>175|47=>176|48=>177|49=>178|50=>179|57=>185|n=>n,fun|22=>133|24=>159|25=>225|3=>3|39=>96|0=>0|53=>256|55=>258|4=>4|46=>250|45=>249|50=>210|5=>5|9=>9|66=>268|70=>272|76=>277|77=>153|n=>n,fun|n=>n⟩
theorem Tryz.laysSortP:Go.Proofs.SlLaysF0.n6 Tryz.prog Tryz.laysSortP_ren:={
 mixed:=by kernel_rfl
 f6:=⟨Tryz.f116.name,by decide,Tryz.func116.trans (congrArg some (by kernel_rfl))⟩
 f14:=⟨Tryz.f141.name,by decide,Tryz.func141.trans (congrArg some (by kernel_rfl))⟩
 f15:=Tryz.func142.trans (congrArg some (by kernel_rfl))
 f20:=⟨Tryz.f152.name,by decide,Tryz.func152.trans (congrArg some (by kernel_rfl))⟩
 f21:=⟨Tryz.f153.name,by decide,Tryz.func153.trans (congrArg some (by kernel_rfl))⟩
 f22:=⟨Tryz.f154.name,by decide,Tryz.func154.trans (congrArg some (by kernel_rfl))⟩
 f23:=⟨Tryz.f155.name,by decide,Tryz.func155.trans (congrArg some (by kernel_rfl))⟩
 f24:=⟨Tryz.f156.name,by decide,Tryz.func156.trans (congrArg some (by kernel_rfl))⟩
 f25:=⟨Tryz.f157.name,by decide,Tryz.func157.trans (congrArg some (by kernel_rfl))⟩
 f26:=⟨Tryz.f158.name,by decide,Tryz.func158.trans (congrArg some (by kernel_rfl))⟩
 f27:=⟨Tryz.f159.name,by decide,Tryz.func159.trans (congrArg some (by kernel_rfl))⟩
 f28:=Tryz.func160.trans (congrArg some (by kernel_rfl))
 f29:=Tryz.func161.trans (congrArg some (by kernel_rfl))
 f46:=⟨Tryz.f175.name,by decide,Tryz.func175.trans (congrArg some (by kernel_rfl))⟩
 f47:=Tryz.func176.trans (congrArg some (by kernel_rfl))
 f48:=Tryz.func177.trans (congrArg some (by kernel_rfl))
 f49:=⟨Tryz.f178.name,by decide,Tryz.func178.trans (congrArg some (by kernel_rfl))⟩
 f50:=⟨Tryz.f179.name,by decide,Tryz.func179.trans (congrArg some (by kernel_rfl))⟩
 f57:=⟨Tryz.f185.name,by decide,Tryz.func185.trans (congrArg some (by kernel_rfl))⟩
 t0:=Tryz.underlying0
 a0:=Tryz.isAgg0
 z0:=Tryz.sizeOf0
 v0:=Tryz.zeroValue0
 t3:=Tryz.underlying3
 a3:=Tryz.isAgg3
 z3:=Tryz.sizeOf3
 v3:=Tryz.zeroValue3
 t4:=Tryz.underlying4
 a4:=Tryz.isAgg4
 z4:=Tryz.sizeOf4
 v4:=Tryz.zeroValue4
 t5:=Tryz.underlying5
 a5:=Tryz.isAgg5
 z5:=Tryz.sizeOf5
 v5:=Tryz.zeroValue5
 t9:=Tryz.underlying9
 a9:=Tryz.isAgg9
 z9:=Tryz.sizeOf9
 v9:=Tryz.zeroValue9
 t22:=Tryz.underlying133
 a22:=Tryz.isAgg133
 z22:=Tryz.sizeOf133
 v22:=Tryz.zeroValue133
 t25:=Tryz.underlying225
 a25:=Tryz.isAgg225
 z25:=Tryz.sizeOf225
 v25:=Tryz.zeroValue225
 t39:=Tryz.underlying96
 a39:=Tryz.isAgg96
 z39:=Tryz.sizeOf96
 v39:=Tryz.zeroValue96
 t45:=Tryz.underlying249
 a45:=Tryz.isAgg249
 z45:=Tryz.sizeOf249
 v45:=Tryz.zeroValue249
 t46:=Tryz.underlying250
 a46:=Tryz.isAgg250
 z46:=Tryz.sizeOf250
 v46:=Tryz.zeroValue250
 t50:=Tryz.underlying210
 a50:=Tryz.isAgg210
 z50:=Tryz.sizeOf210
 v50:=Tryz.zeroValue210
 t53:=Tryz.underlying256
 a53:=Tryz.isAgg256
 z53:=Tryz.sizeOf256
 v53:=Tryz.zeroValue256
 t55:=Tryz.underlying258
 a55:=Tryz.isAgg258
 z55:=Tryz.sizeOf258
 v55:=Tryz.zeroValue258
 t66:=Tryz.underlying268
 a66:=Tryz.isAgg268
 z66:=Tryz.sizeOf268
 v66:=Tryz.zeroValue268
 t70:=Tryz.underlying272
 a70:=Tryz.isAgg272
 z70:=Tryz.sizeOf272
 v70:=Tryz.zeroValue272
 t76:=Tryz.underlying277
 a76:=Tryz.isAgg277
 z76:=Tryz.sizeOf277
 v76:=Tryz.zeroValue277
 t77:=Tryz.underlying153
 a77:=Tryz.isAgg153
 z77:=Tryz.sizeOf153
 v77:=Tryz.zeroValue153 }
end Go.Proofs
namespace Go.Proofs.YtiioklboaookiaaGreatDoor.Q
open Go.RowKit Go.Proofs.YtiioklboaookiaaGreatDoorW.PrintWords Go.Proofs.YtiioklboaookiaaGreatDoorW.PrintLast Go.Proofs.YtiioklboaookiaaGreatDoor.Hand Go.Proofs.YtiioklboaookiaaGreatDoorW.PrintMore
attribute [local go_sem] max2_int min2_int max_two min_two max_three min_three max_four min_four
set_option linter.unusedVariables false
set_option linter.unusedSimpArgs false
def cmpPt (x y:S159):Int:=orI (cmpI x.f0 y.f0) (cmpI x.f1 y.f1)
set_option maxHeartbeats 4000000 in
set_option maxRecDepth 100000 in
theorem porder_walk (x y:S159) (w:World):Calls Tryz.prog 117 #[.agg (encPt x).toArray,.agg (encPt y).toArray] w fun e w'=>e=.returned (.int .i64 (cmpPt x y))∧∃ q os',w' = Go.Sort.grow (w.drewN q) os':=by
 unfold encPt
 go_enter Tryz.func117,Tryz.ntmps117
 go_wp2_with (fail)
 obtain ⟨b1,hb1⟩:∃ b1,b1=w.heap.size:=⟨_,rfl⟩
 obtain ⟨b2,hb2⟩:∃ b2,b2=w.heap.size+1:=⟨_,rfl⟩
 obtain ⟨W2,hW2⟩:∃ W2,W2=(w.alloc (.cells #[.int .i64 x.f0,.int .i64 x.f1] 159)).alloc (.cells #[.int .i64 y.f0,.int .i64 y.f1] 159):=⟨_,rfl⟩
 have HB1:=hid (show W2.heap[b1]?=some (.cells #[.int .i64 x.f0,.int .i64 x.f1] 159 (0,0)) by rw [hW2,hb1];exact blk_alloc (blk_new _ _) _)
 have HB2:=hid (show W2.heap[b2]?=some (.cells #[.int .i64 y.f0,.int .i64 y.f1] 159 (0,0)) by rw [hW2,hb2];exact heap_new _ _ _ (by simp))
 have HS:=hid (show W2.drew.cell? ⟨b1,0,none⟩=some (.int .i64 x.f0)∧W2.drew.cell? ⟨b1,1,none⟩=some (.int .i64 x.f1)∧W2.drew.cell? ⟨b2,0,none⟩=some (.int .i64 y.f0)∧W2.drew.cell? ⟨b2,1,none⟩=some (.int .i64 y.f1) from ⟨by show W2.cell? _=_;simp [World.cell?,HB1.out],by show W2.cell? _=_;simp [World.cell?,HB1.out],by show W2.cell? _=_;simp [World.cell?,HB2.out],by show W2.cell? _=_;simp [World.cell?,HB2.out]⟩)
 rw [← hW2,← hb2,← hb1]
 have HW2:=hid hW2
 clear hb1 hb2 hW2
 refine start_ (n:=13) (S:=fun w'=>w'.cell? ⟨b1,0,none⟩=some (.int .i64 x.f0)∧w'.cell? ⟨b1,1,none⟩=some (.int .i64 x.f1)∧w'.cell? ⟨b2,0,none⟩=some (.int .i64 y.f0)∧w'.cell? ⟨b2,1,none⟩=some (.int .i64 y.f1)) (ds:=[]) #[false,false,false,false,false,false,false,false,false,false,false,false,false] (by kernel_rfl) rfl rfl HS.out (fun hHeld=>?_)
 refine pure_ (i:=0) (N:=some 5) (v:=?_) (a':=?_) #[true,false,false,false,false,false,false,false,false,false,false,false,false] rfl rfl (by kernel_rfl) (fun _ _ _ h=>h) (Or.inl ⟨by rfl,?_⟩) ?_ ?_
 rotate_left
 ·intro w'
  go_simp
  with_reducible rfl
 rotate_left
 ·simp only [Act.put,sp__,i64_w,i32_w]
  rfl
 refine take_ (i:=1) (N:=some 6) (v:=?_) (a':=?_) #[true,true,false,false,false,false,false,false,false,false,false,false,false] rfl rfl (by kernel_rfl) (fun _ _ _ h=>h) (Or.inl ⟨by rfl,?_⟩) hHeld ?_ ?_
 rotate_left
 ·rintro w' ⟨s0,s1,s2,s3⟩
  go_simp
  with_reducible rfl
 rotate_left
 ·simp only [Act.put,sp__,i64_w,i32_w]
  rfl
 refine pure_ (i:=2) (N:=some 7) (v:=?_) (a':=?_) #[true,true,true,false,false,false,false,false,false,false,false,false,false] rfl rfl (by kernel_rfl) (fun _ _ _ h=>h) (Or.inl ⟨by rfl,?_⟩) ?_ ?_
 rotate_left
 ·intro w'
  go_simp
  with_reducible rfl
 rotate_left
 ·simp only [Act.put,sp__,i64_w,i32_w]
  rfl
 refine take_ (i:=3) (N:=some 8) (v:=?_) (a':=?_) #[true,true,true,true,false,false,false,false,false,false,false,false,false] rfl rfl (by kernel_rfl) (fun _ _ _ h=>h) (Or.inl ⟨by rfl,?_⟩) hHeld ?_ ?_
 rotate_left
 ·rintro w' ⟨s0,s1,s2,s3⟩
  go_simp
  with_reducible rfl
 rotate_left
 ·simp only [Act.put,sp__,i64_w,i32_w]
  rfl
 refine pure_ (i:=5) (N:=some 10) (v:=?_) (a':=?_) #[true,true,true,true,false,true,false,false,false,false,false,false,false] rfl rfl (by kernel_rfl) (fun _ _ _ h=>h) (Or.inl ⟨by rfl,?_⟩) ?_ ?_
 rotate_left
 ·intro w'
  go_simp
  with_reducible rfl
 rotate_left
 ·simp only [Act.put,sp__,i64_w,i32_w]
  rfl
 refine take_ (i:=6) (N:=some 11) (v:=?_) (a':=?_) #[true,true,true,true,false,true,true,false,false,false,false,false,false] rfl rfl (by kernel_rfl) (fun _ _ _ h=>h) (Or.inl ⟨by rfl,?_⟩) hHeld ?_ ?_
 rotate_left
 ·rintro w' ⟨s0,s1,s2,s3⟩
  go_simp
  with_reducible rfl
 rotate_left
 ·simp only [Act.put,sp__,i64_w,i32_w]
  rfl
 refine pure_ (i:=7) (N:=some 12) (v:=?_) (a':=?_) #[true,true,true,true,false,true,true,true,false,false,false,false,false] rfl rfl (by kernel_rfl) (fun _ _ _ h=>h) (Or.inl ⟨by rfl,?_⟩) ?_ ?_
 rotate_left
 ·intro w'
  go_simp
  with_reducible rfl
 rotate_left
 ·simp only [Act.put,sp__,i64_w,i32_w]
  rfl
 refine take_ (i:=8) (N:=some 13) (v:=?_) (a':=?_) #[true,true,true,true,false,true,true,true,true,false,false,false,false] rfl rfl (by kernel_rfl) (fun _ _ _ h=>h) (Or.inl ⟨by rfl,?_⟩) hHeld ?_ ?_
 rotate_left
 ·rintro w' ⟨s0,s1,s2,s3⟩
  go_simp
  with_reducible rfl
 rotate_left
 ·simp only [Act.put,sp__,i64_w,i32_w]
  rfl
 refine one_ (i:=4) (N:=some 9) #[true,true,true,true,true,true,true,true,true,false,false,false,false] rfl rfl (by kernel_rfl) (by decide) (fun K hK=>?_)
 refine goes_ Tryz.func110 (by kernel_rfl) rfl #[.int .i64 x.f0,.int .i64 y.f0] (by rfl) rfl rfl (by (try simp only [List.map_toArray,List.map_cons,List.map_nil]);first|done|rfl) ?_
 refine (compare_walk x.f0 y.f0 _).mono ?_
 rintro e w9 ⟨rfl,rfl⟩
 refine ⟨_,rfl,?_⟩
 refine hK.out _ _ HS.out (fun hHeld=>?_)
 clear hK K
 refine norm_ (a':=?_) ?_ ?_
 rotate_left
 ·show Act.put _ (some 9) _=_
  simp only [Act.put,sp__,i64_w,i32_w]
  rfl
 refine one_ (i:=9) (N:=some 14) #[true,true,true,true,true,true,true,true,true,true,false,false,false] rfl rfl (by kernel_rfl) (by decide) (fun K hK=>?_)
 refine goes_ Tryz.func110 (by kernel_rfl) rfl #[.int .i64 x.f1,.int .i64 y.f1] (by rfl) rfl rfl (by (try simp only [List.map_toArray,List.map_cons,List.map_nil]);first|done|rfl) ?_
 refine (compare_walk x.f1 y.f1 _).mono ?_
 rintro e w9 ⟨rfl,rfl⟩
 refine ⟨_,rfl,?_⟩
 refine hK.out _ _ HS.out (fun hHeld=>?_)
 clear hK K
 refine norm_ (a':=?_) ?_ ?_
 rotate_left
 ·show Act.put _ (some 14) _=_
  simp only [Act.put,sp__,i64_w,i32_w]
  rfl
 refine one_ (i:=10) (N:=some 15) #[true,true,true,true,true,true,true,true,true,true,true,false,false] rfl rfl (by kernel_rfl) (by decide) (fun K hK=>?_)
 refine value_ (w1:=?_) (v:=?_) (by rfl) rfl ?_ ?_
 rotate_left 2
 ·go_simp
  first|(refine ⟨?_,?_⟩ <;> rfl)|rfl
 refine hK.out _ _ ⟨pw_cell_below (below_alloc (Below.refl _ _) _) HS.out.1,pw_cell_below (below_alloc (Below.refl _ _) _) HS.out.2.1,pw_cell_below (below_alloc (Below.refl _ _) _) HS.out.2.2.1,pw_cell_below (below_alloc (Below.refl _ _) _) HS.out.2.2.2⟩ (fun hHeld=>?_)
 clear hK K
 refine norm_ (a':=?_) ?_ ?_
 rotate_left
 ·show Act.put _ (some 15) _=_
  simp only [Act.put,sp__,i64_w,i32_w]
  rfl
 refine one_ (i:=11) (N:=some 16) #[true,true,true,true,true,true,true,true,true,true,true,true,false] rfl rfl (by kernel_rfl) (by decide) (fun K hK=>?_)
 refine goes_ Tryz.func109 (by kernel_rfl) rfl #[.slice (some ⟨W2.drew.heap.size,0,none⟩) 2 2] (by rfl) rfl rfl (by (try simp only [List.map_toArray,List.map_cons,List.map_nil]);first|done|rfl) ?_
 refine (or_walk W2.drew.heap.size (cmpI x.f0 y.f0) (cmpI x.f1 y.f1) _ (by show (W2.alloc _).cell? ⟨W2.heap.size,0,none⟩=_;rw [World.cell?_alloc_new];rfl) (by show (W2.alloc _).cell? ⟨W2.heap.size,1,none⟩=_;rw [World.cell?_alloc_new];rfl)).mono ?_
 rintro e w9 ⟨rfl,rfl⟩
 refine ⟨_,rfl,?_⟩
 refine hK.out _ _ ⟨pw_cell_below (below_alloc (Below.refl _ _) _) HS.out.1,pw_cell_below (below_alloc (Below.refl _ _) _) HS.out.2.1,pw_cell_below (below_alloc (Below.refl _ _) _) HS.out.2.2.1,pw_cell_below (below_alloc (Below.refl _ _) _) HS.out.2.2.2⟩ (fun hHeld=>?_)
 clear hK K
 refine norm_ (a':=?_) ?_ ?_
 rotate_left
 ·show Act.put _ (some 16) _=_
  simp only [Act.put,sp__,i64_w,i32_w]
  rfl
 refine pure_ (i:=12) (N:=some 4) (v:=?_) (a':=?_) #[true,true,true,true,true,true,true,true,true,true,true,true,true] rfl rfl (by kernel_rfl) (fun _ _ _ h=>h) (Or.inl ⟨by rfl,?_⟩) ?_ ?_
 rotate_left
 ·intro w'
  go_simp
  with_reducible rfl
 rotate_left
 ·simp only [Act.put,sp__,i64_w,i32_w]
  rfl
 refine done_ (by kernel_rfl) ?_
 go_wp2_with (fail)
 go_ret
 refine ⟨rfl,1,#[.cells #[.int .i64 x.f0,.int .i64 x.f1] 159]++#[.cells #[.int .i64 y.f0,.int .i64 y.f1] 159]++#[.cells #[.int .i64 (cmpI x.f0 y.f0),.int .i64 (cmpI x.f1 y.f1)] 3],?_⟩
 rw [HW2.out,Go.Sort.alloc_eq_grow,Go.Sort.alloc_eq_grow,Go.Sort.alloc_eq_grow,Go.Sort.grow_grow,Go.Sort.grow_grow]
 rfl
instance:Inhabited S159:=⟨z159⟩
theorem pflat_size (d:Array S159):(Go.Sort.flatK encPt 2 d).size=d.size*2:=Go.Sort.size_flatK _ _ _
theorem pflat_at (d:Array S159) (i r:Nat) (hi:i<d.size) (hr:r<2):(Go.Sort.flatK encPt 2 d)[i*2+r]! = (encPt d[i]!)[r]!:=by
 rw [Go.Sort.get_flatK _ _ _ _ (by omega),show (i*2+r) / 2=i by omega,show (i*2+r) % 2=r by omega]
theorem holds_pts {w:World} {g:Nat} {cur:Array Value} {e:TypeId} {L:List S159} {base cap:Nat} {ok:Nat→Prop} (hb:w.heap[g]?=some (.cells cur e (0,0))) (h:Kd.R k159 e w base ok (.slice (some ⟨g,0,none⟩) L.length cap) L):Go.Sort.HoldsK encPt 2 w g 0 L.toArray:=by
 intro t ht
 rw [pflat_size] at ht
 have ht' : t<L.length*2:=by simpa using ht
 have hc:=(Kd.R_reads' h).2.2
 obtain ⟨i,r,hi,hr,rfl⟩:∃ i r,i<L.length∧r<2∧t=i*2+r:=⟨t / 2,t % 2,by omega,by omega,by omega⟩
 obtain ⟨ad,e0,h0,h1⟩:=at_T159 hc (i:Int) (by omega) (by omega)
 rw [Int.toNat_natCast] at h0 h1
 cases e0
 refine ⟨?_,by simp [World.frozen?,hb]⟩
 rw [pflat_at _ i r (by simpa using hi) hr]
 have hg:L.toArray[i]! = rd_T159 L (i:Int):=by
  unfold rd_T159;rw [Int.toNat_natCast,List.getD_eq_getElem?_getD];simp [hi]
 rw [hg]
 have a0:(⟨g,0,none⟩:Addr).add (i*2)=⟨g,i*2,none⟩:=by rw [Go.WideShapes.add_plain,Nat.zero_add]
 rw [a0] at h0 h1
 rw [show 0+(i*2+r)=i*2+r by omega]
 unfold encPt
 match r,hr with
 | 0,_=>exact h0
 | 1,_=>exact h1
theorem reps_pts (w:World) (base:Nat) (ok:Nat→Prop) (d:Array S159):Reps (k159.M w base ok) 2 d.toList (Go.Sort.flatK encPt 2 d).toList:=by
 refine ⟨by simp [pflat_size],fun j p hp=>?_⟩
 have hj:j<d.size:=by
  have:=(List.getElem?_eq_some_iff.1 hp).1;simpa using this
 have hv:d[j]! = p:=by
  obtain ⟨h1,h2⟩:=List.getElem?_eq_some_iff.1 hp
  rw [← h2];simp [hj]
 have hcell:∀ r,r<2→(((Go.Sort.flatK encPt 2 d).toList.drop (j*2)).take 2)[r]?=some ((encPt p)[r]!):=fun r hr=>by
  rw [List.getElem?_take_of_lt hr,List.getElem?_drop,Array.getElem?_toList]
  have h:=pflat_at d j r hj hr
  rw [hv] at h
  have hlt:j*2+r<(Go.Sort.flatK encPt 2 d).size:=by rw [pflat_size];omega
  rw [getElem!_pos (Go.Sort.flatK encPt 2 d) (j*2+r) hlt] at h
  rw [Array.getElem?_eq_getElem hlt,h]
 have he:((Go.Sort.flatK encPt 2 d).toList.drop (j*2)).take 2=[.int .i64 p.f0,.int .i64 p.f1]:=by
  apply List.ext_getElem?
  intro r
  by_cases hr:r<2
  ·rw [hcell r hr]
   match r,hr with
   | 0,_=>rfl
   | 1,_=>rfl
  ·rw [List.getElem?_eq_none (by rw [List.length_take];omega),List.getElem?_eq_none (by simp;omega)]
 rw [he]
 exact k159_mkM _ _ _ p
theorem R_sortedP {w:World} {base g cap n:Nat} {os:Array Obj} {L:List S159} (h:Kd.R k159 159 w base (fun _=>True) (.slice (some ⟨g,0,none⟩) L.length cap) L) {d' : Array S159} (hs:d'.size=L.length) :
  Kd.R k159 159 (Go.Proofs.sortWorldK encPt 2 w g 0 n d' os) base (fun _=>True) (.slice (some ⟨g,0,none⟩) d'.toList.length cap) d'.toList∧w.grownBy (Go.Proofs.sortWorldK encPt 2 w g 0 n d' os) (some g):=by
 obtain ⟨_,inner,ho,_⟩:=h
 rcases ho.2 with ⟨he,_⟩ | ⟨g',cap',cur,hv,hb,hh,hnc,hcm,hcs,ht⟩
 ·cases he
 ·cases hv
  have hsz:k159.sz=2:=rfl
  rw [hsz] at hcs
  refine ⟨⟨fun _ _=>trivial,(Go.Sort.flatK encPt 2 d').toList,⟨?_,.inr ⟨g,cap,_,rfl,hb,heap_sortedV _ hh,?_,hcm,?_,?_⟩⟩,reps_pts _ _ _ d'⟩,grownBy_sortedV _⟩
  ·rw [hsz];simp [pflat_size]
  ·simp;omega
  ·rw [hsz];simpa [Go.Sort.putCells] using hcs
  ·rw [hsz]
   have e:d'.toList.length*2=(Go.Sort.flatK encPt 2 d').size:=by rw [pflat_size];simp
   rw [e]
   exact take_putCellsV cur _ (by rw [pflat_size,hcs,hs];omega)
theorem cmpI_cases (a b:Int):(a<b∧cmpI a b = -1)∨(b<a∧cmpI a b=1)∨(a=b∧cmpI a b=0):=by
 unfold cmpI
 by_cases h:a<b
 ·exact .inl ⟨h,if_pos h⟩
 ·by_cases h2:b<a
  ·exact .inr (.inl ⟨h2,by rw [if_neg h,if_pos h2]⟩)
  ·exact .inr (.inr ⟨by omega,by rw [if_neg h,if_neg h2]⟩)
theorem ltP_iff (x y:S159):ltOf cmpPt x y=true ↔ x.f0<y.f0∨(x.f0=y.f0∧x.f1<y.f1):=by
 unfold ltOf cmpPt orI
 rw [decide_eq_true_iff]
 rcases cmpI_cases x.f0 y.f0 with ⟨h,e⟩ | ⟨h,e⟩ | ⟨h,e⟩ <;> rcases cmpI_cases x.f1 y.f1 with ⟨h2,e2⟩ | ⟨h2,e2⟩ | ⟨h2,e2⟩ <;> rw [e,e2] <;> simp <;> omega
theorem ltP_no (x y:S159):ltOf cmpPt x y=false ↔ ¬ (x.f0<y.f0∨(x.f0=y.f0∧x.f1<y.f1)):=by
 rw [← ltP_iff];simp
theorem swoP:Go.Sort.SWO (ltOf cmpPt):=by
 refine ⟨fun x=>?_,fun x y z h1 h2=>?_,fun x y z h1 h2=>?_⟩
 ·rw [ltP_no];omega
 ·rw [ltP_iff] at *;omega
 ·rw [ltP_no] at *;omega
theorem rect_sorted {a b c d:Int} (hac:a<c) (hbd:b<d) {d' : Array S159} (hp:Go.Sort.PermIn 0 4 #[⟨a,b⟩,⟨c,b⟩,⟨c,d⟩,⟨a,d⟩] d') (hs:Go.Sort.SortedIn (ltOf cmpPt) 0 4 d'):d'.toList=[⟨a,b⟩,⟨a,d⟩,⟨c,b⟩,⟨c,d⟩]:=by
 obtain ⟨h1,_,h3⟩:=hp
 have h1' : d'.size=4:=h1
 have e2:d'.extract 0 4=d':=by rw [← h1'];simp
 rw [e2] at h3
 have h3' : d'.toList.Perm [⟨a,b⟩,⟨c,b⟩,⟨c,d⟩,⟨a,d⟩]:=h3
 have hq:[(⟨a,b⟩:S159),⟨c,b⟩,⟨c,d⟩,⟨a,d⟩].Perm [⟨a,b⟩,⟨a,d⟩,⟨c,b⟩,⟨c,d⟩] :=
  List.Perm.cons _ (((List.Perm.cons _ (List.Perm.swap _ _ _)).trans (List.Perm.swap _ _ _)))
 refine List.Perm.eq_of_pairwise (le:=fun x y=>ltOf cmpPt y x=false) ?_ ?_ ?_ (h3'.trans hq)
 ·intro x y _ _ g1 g2
  rw [ltP_no] at g1 g2
  cases x;cases y
  dsimp only at g1 g2
  congr <;> omega
 ·rw [List.pairwise_iff_getElem]
  intro i j hi hj hij
  have hj' : j<4:=by rw [← h1'];simpa using hj
  have:=hs i j (by omega) hij hj'
  rw [getElem!_pos d' i (by omega),getElem!_pos d' j (by omega)] at this
  simpa using this
 ·simp only [List.pairwise_cons,List.mem_cons,List.not_mem_nil,or_false,ltP_no]
  refine ⟨?_,?_,?_,?_,List.Pairwise.nil⟩
  ·rintro x (rfl|rfl|rfl) <;> dsimp only <;> omega
  ·rintro x (rfl|rfl) <;> dsimp only <;> omega
  ·rintro x rfl;dsimp only;omega
  ·intro x hx;exact hx.elim
theorem psort_walk (a b c d:Int) (hac:a<c) (hbd:b<d) (g cap base:Nat) (w:World) (h:Kd.R k159 159 w base (fun _=>True) (.slice (some ⟨g,0,none⟩) 4 cap) [⟨a,b⟩,⟨c,b⟩,⟨c,d⟩,⟨a,d⟩]) :
  Calls Tryz.prog 116 #[.slice (some ⟨g,0,none⟩) 4 cap,.func (.func 117) #[] #[]] w fun e w'=>e=.returned (.tuple #[]) ∧
   Kd.R k159 159 w' base (fun _=>True) (.slice (some ⟨g,0,none⟩) 4 cap) [⟨a,b⟩,⟨a,d⟩,⟨c,b⟩,⟨c,d⟩]∧w.grownBy w' (some g):=by
 obtain ⟨cells,hh⟩:=Kd.R_typed h g rfl
 have eg:∀ args w,(callFunc 117 args).run Tryz.prog w=.ok (.enter 117 args) w:=enters_of Tryz.func117 (by kernel_rfl) rfl
 have hc:=AnyQ.slices_SortFunc Tryz.laysSortP 2 Tryz.isAgg159 Tryz.sizeOf159 encPt (fun _=>rfl) (fun x v hv=>by simp [encPt] at hv;rcases hv with rfl|rfl <;> rfl) cmpPt swoP 117 #[] g 0 cap #[⟨a,b⟩,⟨c,b⟩,⟨c,d⟩,⟨a,d⟩] w eg (fun _ _ _ _ x y=>porder_walk x y _) (holds_pts hh h) (lt_of_some hh) (by simp)
 refine hc.mono ?_
 rintro e w' ⟨rfl,d',n,os,h1,h2,rfl⟩
 have hr:=rect_sorted hac hbd h1 h2
 have hz:d'.size=4:=h1.1
 obtain ⟨r1,r2⟩:=R_sortedP (n:=n) (os:=os) h (d':=d') hz
 rw [hr] at r1
 exact ⟨rfl,r1,r2⟩
end Go.Proofs.YtiioklboaookiaaGreatDoor.Q
namespace Go.Proofs.YtiioklboaookiaaGreatDoor.Q
open Go.RowKit Go.Proofs.YtiioklboaookiaaGreatDoorW.PrintWords Go.Proofs.YtiioklboaookiaaGreatDoorW.PrintLast Go.Proofs.YtiioklboaookiaaGreatDoor.Hand Go.Proofs.YtiioklboaookiaaGreatDoorW.PrintMore
attribute [local go_sem] max2_int min2_int max_two min_two max_three min_three max_four min_four
set_option linter.unusedVariables false
set_option linter.unusedSimpArgs false
abbrev Pt:=S159
theorem Pt_empty (W:World) (base:Nat) (hb:base≤W.heap.size):Kd.R k159 159 (W.alloc (.cells #[] 159)) base (fun _=>True) (.slice (some ⟨W.heap.size,0,none⟩) 0 0) [] :=
 ⟨fun _ _=>trivial,[],⟨rfl,.inr ⟨W.heap.size,0,#[],rfl,hb,blk_new _ _,by simp,by decide,rfl,rfl⟩⟩,Reps.none _ _⟩
set_option maxHeartbeats 4000000 in
set_option maxRecDepth 100000 in
theorem clonePt_walk (L:List Pt) (g cap:Nat) (w:World) (hl:L.length≤512) (hc:L.length≤cap) (h:Kd.C k159 w (some ⟨g,0,none⟩) L.length L) :
  Calls Tryz.prog 115 #[.slice (some ⟨g,0,none⟩) L.length cap] w fun e w'=>∃ v',e=.returned v'∧Kd.R k159 159 w' w.heap.size (fun _=>True) v' L∧Below w.heap.size w w':=by
 have HC:=Aside0.mk (Kd.C_alloc h (.cells #[] 159))
 have HE:=Aside0.mk (Pt_empty w w.heap.size (Nat.le_refl _))
 have HB:=Aside0.mk (below_alloc (Below.refl w.heap.size w) (.cells #[] 159))
 clear h
 obtain ⟨n,hn⟩:∃ n,n=L.length:=⟨_,rfl⟩
 rw [← hn] at HC hl hc ⊢
 clear hn
 have he:∀ w:World,(binOp .eql 133 (.slice (some ⟨g,0,none⟩) n cap) (.slice none 0 0)).run Tryz.prog w=.ok (.bool false) w:=fun _=>rfl
 go_enter Tryz.func115,Tryz.ntmps115
 go_wp2_with ((with_reducible refine gate_builtin (b:=.append) (xs:=#[.tmp 5,.tmp 6]) rfl ?_);at_builtin;refine Kd.R_append_rows k159 (Rr:=k159.K (w.alloc (.cells #[] 159))) (w0:=w) w.heap.size rfl (.tmp 5) (.tmp 6) 133 159 (.agg #[.int .i64 0,.int .i64 0]) 16 rfl Tryz.underlying133 info159 rfl (by decide) (by omega) (.slice (some ⟨w.heap.size,0,none⟩) 0 0) [] L (some ⟨g,0,none⟩) n cap (fun _=>True) (fun _=>False) rfl rfl HE.out HC.out (fun x cs hk=>by rw [k159_open hk];exact k159_mkM _ _ _ x) (fun _ hk=>hk.elim) (fun _ _=>trivial) HB.out HB.out.size ?aL ?_;(case aL=>simp;omega);intro v6 w6 ho hb hg hat;have HO6:=Aside0.mk ho;have HB6:=Aside0.mk hb;clear ho hb hg hat)
 go_ret
 exact ⟨_,rfl,by simpa using HO6.out,HB6.out⟩
theorem eqPt (a b c d:Int) (w:World):(binOp .eql 159 (.agg #[.int .i64 a,.int .i64 b]) (.agg #[.int .i64 c,.int .i64 d])).run Tryz.prog w=.ok (.bool (decide (a=c∧b=d))) w:=by
 have hf : (Tryz.prog.fieldsOf 159).toList.map (fun f => (f.name, f.type, f.offset)) = [("X", 3, 0), ("Y", 3, 1)] := by kernel_rfl
 have hu:Tryz.prog.underlying 159=some (.struct (Tryz.prog.fieldsOf 159)):=by unfold Program.fieldsOf;rw [Tryz.underlying159]
 have hp:Tryz.prog.stoodInHeld 159=false:=by kernel_rfl
 have hi:=Tryz.underlying3
 rw [run_eql_struct,run_equalIn_agg _ _ _ _ _ hu hp]
 clear hu hp
 generalize (Tryz.prog.fieldsOf 159).toList=fs at hf ⊢
 obtain ⟨f1,f2,rfl⟩:∃ f1 f2,fs=[f1,f2]:=by
  have hl:=congrArg List.length hf
  rw [List.length_map] at hl
  match fs,hl with
  | [f1,f2],_=>exact ⟨f1,f2,rfl⟩
 simp only [List.map_cons,List.map_nil,List.cons.injEq,Prod.mk.injEq,and_true] at hf
 obtain ⟨⟨n1,t1,o1⟩,n2,t2,o2⟩:=hf
 have p1:∀ (x y:Int) (w:World),(part 3 #[.int .i64 x,.int .i64 y] 0).run Tryz.prog w=.ok (.int .i64 x) w:=fun x y w=>by simp [part,sizeOf,typeInfo,hi]
 have p2:∀ (x y:Int) (w:World),(part 3 #[.int .i64 x,.int .i64 y] 1).run Tryz.prog w=.ok (.int .i64 y) w:=fun x y w=>by simp [part,sizeOf,typeInfo,hi]
 have q1:∀ (x y:Int) (w:World),(Op.equalIn 9999 3 (.int .i64 x) (.int .i64 y)).run Tryz.prog w=.ok (x == y) w:=fun x y w=>run_equalIn_int w 9998 _ .i64 .i64 x y hi
 simp only [Op.eqFields,n1,n2,t1,t2,o1,o2,Sem.run_bind,p1,p2,q1,Result.andThen_ok,Sem.run_ite,Sem.run_pure]
 by_cases h1:a=c <;> by_cases h2:b=d <;> simp [h1,h2,Sem.run_pure]
theorem gdPt (x y:Operand) (a b:Array Value) (w:World):(eqGuard .eql 159 x y (.agg a) (.agg b)).run Tryz.prog w=.ok () w:=run_eqGuard_agg w _ _ _ _ _ _ (by kernel_rfl)
set_option maxHeartbeats 4000000 in
set_option maxRecDepth 100000 in
theorem compactPt_walk (L:List Pt) (g cap:Nat) (w:World) (h2:2≤L.length) (hl:L.length≤512) (h:Kd.C k159 w (some ⟨g,0,none⟩) L.length L)
  (hd:∀ q k:Nat,k=q+1→k<L.length→¬ ((rd_T159 L (k:Int)).f0=(rd_T159 L (q:Int)).f0∧(rd_T159 L (k:Int)).f1=(rd_T159 L (q:Int)).f1)) :
  Calls Tryz.prog 118 #[.slice (some ⟨g,0,none⟩) L.length cap] w fun e w'=>e=.returned (.slice (some ⟨g,0,none⟩) L.length cap)∧Below w.heap.size w w':=by
 have HC:=Aside0.mk h
 have HD:=hid hd
 clear h hd
 obtain ⟨n,hn⟩:∃ n,n=L.length:=⟨_,rfl⟩
 rw [← hn] at HC hl h2 ⊢
 have HN:=hid hn
 clear hn
 have d0:decide ((n:Int)<2)=false:=decide_eq_false (by omega)
 go_enter Tryz.func118,Tryz.ntmps118
 go_wp2_with (fail)
 go_loopg [3] n (fun kq v3 w'=>∃ (k:Nat),v3=.int .i64 k∧k+kq=n+1∧1≤k∧k≤n∧Aside0 (Below w.heap.size w w'))
 case atStart=>exact ⟨1,rfl,by omega,by omega,by omega,⟨Below.refl _ _⟩⟩
 case round =>
  obtain ⟨k,rfl,hk,hk1,hkn,HB⟩:=hrel
  by_cases hlt:k<n
  ·have d1:decide ((k:Int)<(n:Int))=true:=decide_eq_true (by omega)
   obtain ⟨q,hqk⟩:∃ q,k=q+1:=⟨k-1,by omega⟩
   obtain ⟨ad,e0,hx0,hx1⟩:=at_T159 HC.out (k:Int) (by omega) (by omega)
   obtain ⟨ad2,e2,hy0,hy1⟩:=at_T159 HC.out (q:Int) (by omega) (by omega)
   rw [Int.toNat_natCast] at hx0 hx1 hy0 hy1
   replace hx0:=(HB.out.cell (World.block_lt_of_cell? w _ hx0)).trans hx0
   replace hx1:=(HB.out.cell (World.block_lt_of_cell? w _ hx1)).trans hx1
   replace hy0:=(HB.out.cell (World.block_lt_of_cell? w _ hy0)).trans hy0
   replace hy1:=(HB.out.cell (World.block_lt_of_cell? w _ hy1)).trans hy1
   cases e0
   cases e2
   simp only [add_plain] at hx0 hx1 hy0 hy1
   have hne:=HD.out q k hqk (by rw [← HN.out];exact hlt)
   obtain ⟨x,hx⟩:∃ x,x=rd_T159 L (k:Int):=⟨_,rfl⟩
   obtain ⟨y,hy⟩:∃ y,y=rd_T159 L (q:Int):=⟨_,rfl⟩
   rw [← hx] at hx0 hx1 hne
   rw [← hy] at hy0 hy1 hne
   have heq:∀ w,(binOp .eql 159 (.agg #[.int .i64 x.f0,.int .i64 x.f1]) (.agg #[.int .i64 y.f0,.int .i64 y.f1])).run Tryz.prog w=.ok (.bool false) w:=fun w=>by rw [eqPt,decide_eq_false hne]
   have hgd:=fun u v w=>gdPt u v #[.int .i64 x.f0,.int .i64 x.f1] #[.int .i64 y.f0,.int .i64 y.f1] w
   have k0:(0:Int)≤(k:Int):=by omega
   have k1:(k:Int)<(n:Int):=by omega
   have q0:(0:Int)≤(q:Int):=by omega
   have q1:(q:Int)<(n:Int):=by omega
   have hq:(k:Int)-1=(q:Int):=by omega
   have wq:wrap64 (q:Int)=(q:Int):=w64_in _ (by omega) (by omega)
   have HLT:=hid hlt
   have HQK:=hid hqk
   have HX0:=hid hx0
   have HX1:=hid hx1
   clear hne hx hy hlt hqk
   go_wp2_with (fail)
   go_quiet (fail)
   have HB2:=Aside0.mk (HB.out.trans ((pw_below_drewN (Below.refl wr.heap.size wr) nq).mono HB.out.size))
   clear HB hx0 hx1 hy0 hy1 heq hgd
   go_wp2_with (fail)
   go_roundg (n-k)
   case rel=>exact ⟨k+1,by go_num,by have:=HLT.out;omega,by omega,by have:=HLT.out;omega,HB2⟩
   case measure=>have:=HLT.out;omega
  ·have d1:decide ((k:Int)<(n:Int))=false:=decide_eq_false (by omega)
   go_wp2_with (fail)
   go_ret
   exact ⟨rfl,HB.out⟩
theorem elemP {g cap base N:Nat} {L' : List Pt} {w:World} (h:Kd.R k159 159 w base (fun _=>True) (.slice (some ⟨g,0,none⟩) N cap) L') (p:Nat) (hp:p<N) :
  w.cell? ⟨g,p*2,none⟩=some (.int .i64 (rd_T159 L' (p:Int)).f0)∧w.cell? ⟨g,p*2+1,none⟩=some (.int .i64 (rd_T159 L' (p:Int)).f1):=by
 obtain ⟨c,hcl,hM,hcc,_⟩:=Kd.R_elem h z159 (p:Int) (by omega) (by omega)
 rw [Int.toNat_natCast] at hcc hM
 obtain rfl:=k159_openM hM
 have hsz:k159.sz=2:=rfl
 rw [hsz] at hcc
 have e:rd_T159 L' (p:Int)=L'.getD p z159:=by unfold rd_T159;rw [Int.toNat_natCast]
 rw [e]
 exact ⟨hcc 0 _ rfl,hcc 1 _ rfl⟩
theorem putP {g cap base N:Nat} {L' : List Pt} {w:World} (h:Kd.R k159 159 w base (fun _=>True) (.slice (some ⟨g,0,none⟩) N cap) L') (p:Nat) (hp:p<N) (y:Pt) :
  Kd.R k159 159 ((w.setCell ⟨g,p*2,none⟩ (.int .i64 y.f0)).setCell ⟨g,p*2+1,none⟩ (.int .i64 y.f1)) base (fun _=>True) (.slice (some ⟨g,0,none⟩) N cap) (L'.set p y) ∧
   w.grownBy ((w.setCell ⟨g,p*2,none⟩ (.int .i64 y.f0)).setCell ⟨g,p*2+1,none⟩ (.int .i64 y.f1)) (some g):=by
 obtain ⟨c,hcl,hM,hcc,_⟩:=Kd.R_elem h z159 (p:Int) (by omega) (by omega)
 have hsz:k159.sz=2:=rfl
 have hs:=Kd.R_seg (seg:=[.int .i64 y.f0,.int .i64 y.f1]) (j:=0) (x':=y) (okp:=fun _=>False) h (p:Int) (by omega) (by omega) hcl hcc (by rw [hsz];show 0+2≤2;omega) (by
  have hd:c.drop (0 + [Value.int .i64 y.f0,.int .i64 y.f1].length)=[]:=List.drop_eq_nil_of_le (by rw [hcl,hsz];show 2≤0+2;omega)
  rw [hd,List.take_zero,List.nil_append,List.append_nil]
  exact k159_mkM _ _ _ y) (fun _ hk=>hk.elim)
 rw [Int.toNat_natCast] at hs
 exact hs
def revS (p0 p1 p2 p3:Pt) (i:Nat):List Pt:=if i=0 then [p0,p1,p2,p3] else if i=1 then [p3,p1,p2,p0] else [p3,p2,p1,p0]
theorem revS_next (p0 p1 p2 p3:Pt) (i:Nat) (h:i<2):((revS p0 p1 p2 p3 i).set i (rd_T159 (revS p0 p1 p2 p3 i) ((3-i:Nat):Int))).set (3-i) (rd_T159 (revS p0 p1 p2 p3 i) (i:Int))=revS p0 p1 p2 p3 (i+1):=by
 have:i=0∨i=1:=by omega
 rcases this with rfl|rfl <;> rfl
set_option maxHeartbeats 8000000 in
set_option maxRecDepth 100000 in
theorem reverseP_walk (p0 p1 p2 p3:Pt) (g cap base:Nat) (w:World) (h:Kd.R k159 159 w base (fun _=>True) (.slice (some ⟨g,0,none⟩) 4 cap) [p0,p1,p2,p3]) :
  Calls Tryz.prog 120 #[.slice (some ⟨g,0,none⟩) 4 cap] w fun e w'=>e=.returned (.tuple #[])∧Kd.R k159 159 w' base (fun _=>True) (.slice (some ⟨g,0,none⟩) 4 cap) [p3,p2,p1,p0]∧w.grownBy w' (some g):=by
 have HR0:=Aside0.mk h
 have HG0:Aside0 (w.grownBy w (some g)):=⟨World.grownBy.refl w _⟩
 clear h
 go_enter Tryz.func120,Tryz.ntmps120
 go_wp2_with (fail)
 go_loopg [2,3] 2 (fun kq v2 v3 w'=>∃ (i j:Nat),v2=.int .i64 i∧v3=.int .i64 j∧i+j=3∧i+kq=2∧Aside0 (Kd.R k159 159 w' base (fun _=>True) (.slice (some ⟨g,0,none⟩) 4 cap) (revS p0 p1 p2 p3 i))∧Aside0 (w.grownBy w' (some g)))
 case atStart=>exact ⟨0,3,rfl,rfl,rfl,rfl,HR0,HG0⟩
 case round =>
  clear HR0 HG0
  obtain ⟨p,q,rfl,rfl,hpq,hi,HR,HG⟩:=hrel
  by_cases hlt:p<2
  ·have d1:decide ((p:Int)<(q:Int))=true:=decide_eq_true (by omega)
   have hpN:p<4:=by omega
   have hqN:q<4:=by omega
   have p0' : (0:Int)≤(p:Int):=by omega
   have q0' : (0:Int)≤(q:Int):=by omega
   have p1' : (p:Int)<4:=by omega
   have q1' : (q:Int)<4:=by omega
   have hx:=elemP HR.out p hpN
   have hy:=elemP HR.out q hqN
   obtain ⟨x,hxx⟩:∃ x,x=rd_T159 (revS p0 p1 p2 p3 p) (p:Int):=⟨_,rfl⟩
   obtain ⟨y,hyy⟩:∃ y,y=rd_T159 (revS p0 p1 p2 p3 p) (q:Int):=⟨_,rfl⟩
   rw [← hxx] at hx
   rw [← hyy] at hy
   have HXX:=hid hxx
   have HYY:=hid hyy
   have hfz:∀ o,wr.frozen? ⟨g,o,none⟩=false:=by
    obtain ⟨cells,hc⟩:=Kd.R_typed HR.out g rfl
    exact fun o=>blk_frozen hc _
   have HS:=hid (show wr.drew.cell? ⟨g,p*2,none⟩=some (.int .i64 x.f0)∧wr.drew.cell? ⟨g,p*2+1,none⟩=some (.int .i64 x.f1)∧wr.drew.cell? ⟨g,q*2,none⟩=some (.int .i64 y.f0)∧wr.drew.cell? ⟨g,q*2+1,none⟩=some (.int .i64 y.f1) from ⟨hx.1,hx.2,hy.1,hy.2⟩)
   have HLT:=hid hlt
   have HPQ:=hid hpq
   obtain ⟨hx0,hx1⟩:=hx
   obtain ⟨hy0,hy1⟩:=hy
   have hle:p≠q:=by omega
   have hlt2:p<q:=by omega
   clear hlt hxx hyy hpq
   go_wp2_with (fail)
   refine start_ (n:=16) (S:=fun w'=>w'.cell? ⟨g,p*2,none⟩=some (.int .i64 x.f0)∧w'.cell? ⟨g,p*2+1,none⟩=some (.int .i64 x.f1)∧w'.cell? ⟨g,q*2,none⟩=some (.int .i64 y.f0)∧w'.cell? ⟨g,q*2+1,none⟩=some (.int .i64 y.f1)) (ds:=[13,15]) #[false,false,false,false,false,false,false,false,false,false,false,false,false,false,false,false] (by kernel_rfl) rfl rfl HS.out (fun hHeld=>?_)
   refine pure_ (i:=0) (N:=some 14) (v:=?_) (a':=?_) #[true,false,false,false,false,false,false,false,false,false,false,false,false,false,false,false] rfl rfl (by kernel_rfl) (fun _ _ _ h=>h) (Or.inl ⟨by rfl,?_⟩) ?_ ?_
   rotate_left
   ·intro w'
    go_simp
    with_reducible rfl
   rotate_left
   ·simp only [Act.put,sp__,i64_w,i32_w]
    rfl
   refine pure_ (i:=1) (N:=some 15) (v:=?_) (a':=?_) #[true,true,false,false,false,false,false,false,false,false,false,false,false,false,false,false] rfl rfl (by kernel_rfl) (fun _ _ _ h=>h) (Or.inl ⟨by rfl,?_⟩) ?_ ?_
   rotate_left
   ·intro w'
    go_simp
    with_reducible rfl
   rotate_left
   ·simp only [Act.put,sp__,i64_w,i32_w]
    rfl
   refine pure_ (i:=2) (N:=some 16) (v:=?_) (a':=?_) #[true,true,true,false,false,false,false,false,false,false,false,false,false,false,false,false] rfl rfl (by kernel_rfl) (fun _ _ _ h=>h) (Or.inl ⟨by rfl,?_⟩) ?_ ?_
   rotate_left
   ·intro w'
    go_simp
    with_reducible rfl
   rotate_left
   ·simp only [Act.put,sp__,i64_w,i32_w]
    rfl
   refine pure_ (i:=3) (N:=some 17) (v:=?_) (a':=?_) #[true,true,true,true,false,false,false,false,false,false,false,false,false,false,false,false] rfl rfl (by kernel_rfl) (fun _ _ _ h=>h) (Or.inl ⟨by rfl,?_⟩) ?_ ?_
   rotate_left
   ·intro w'
    go_simp
    with_reducible rfl
   rotate_left
   ·simp only [Act.put,sp__,i64_w,i32_w]
    rfl
   refine pure_ (i:=4) (N:=some 18) (v:=?_) (a':=?_) #[true,true,true,true,true,false,false,false,false,false,false,false,false,false,false,false] rfl rfl (by kernel_rfl) (fun _ _ _ h=>h) (Or.inl ⟨by rfl,?_⟩) ?_ ?_
   rotate_left
   ·intro w'
    go_simp
    with_reducible rfl
   rotate_left
   ·simp only [Act.put,sp__,i64_w,i32_w]
    rfl
   refine pure_ (i:=5) (N:=some 19) (v:=?_) (a':=?_) #[true,true,true,true,true,true,false,false,false,false,false,false,false,false,false,false] rfl rfl (by kernel_rfl) (fun _ _ _ h=>h) (Or.inl ⟨by rfl,?_⟩) ?_ ?_
   rotate_left
   ·intro w'
    go_simp
    with_reducible rfl
   rotate_left
   ·simp only [Act.put,sp__,i64_w,i32_w]
    rfl
   refine pure_ (i:=6) (N:=some 20) (v:=?_) (a':=?_) #[true,true,true,true,true,true,true,false,false,false,false,false,false,false,false,false] rfl rfl (by kernel_rfl) (fun _ _ _ h=>h) (Or.inl ⟨by rfl,?_⟩) ?_ ?_
   rotate_left
   ·intro w'
    go_simp
    with_reducible rfl
   rotate_left
   ·simp only [Act.put,sp__,i64_w,i32_w]
    rfl
   refine take_ (i:=7) (N:=some 21) (v:=?_) (a':=?_) #[true,true,true,true,true,true,true,true,false,false,false,false,false,false,false,false] rfl rfl (by kernel_rfl) (fun _ _ _ h=>h) (Or.inl ⟨by rfl,?_⟩) hHeld ?_ ?_
   rotate_left
   ·rintro w' ⟨s0,s1,s2,s3⟩
    go_simp
    with_reducible rfl
   rotate_left
   ·simp only [Act.put,sp__,i64_w,i32_w]
    rfl
   refine pure_ (i:=8) (N:=some 22) (v:=?_) (a':=?_) #[true,true,true,true,true,true,true,true,true,false,false,false,false,false,false,false] rfl rfl (by kernel_rfl) (fun _ _ _ h=>h) (Or.inl ⟨by rfl,?_⟩) ?_ ?_
   rotate_left
   ·intro w'
    go_simp
    with_reducible rfl
   rotate_left
   ·simp only [Act.put,sp__,i64_w,i32_w]
    rfl
   refine pure_ (i:=9) (N:=some 23) (v:=?_) (a':=?_) #[true,true,true,true,true,true,true,true,true,true,false,false,false,false,false,false] rfl rfl (by kernel_rfl) (fun _ _ _ h=>h) (Or.inl ⟨by rfl,?_⟩) ?_ ?_
   rotate_left
   ·intro w'
    go_simp
    with_reducible rfl
   rotate_left
   ·simp only [Act.put,sp__,i64_w,i32_w]
    rfl
   refine pure_ (i:=10) (N:=some 24) (v:=?_) (a':=?_) #[true,true,true,true,true,true,true,true,true,true,true,false,false,false,false,false] rfl rfl (by kernel_rfl) (fun _ _ _ h=>h) (Or.inl ⟨by rfl,?_⟩) ?_ ?_
   rotate_left
   ·intro w'
    go_simp
    with_reducible rfl
   rotate_left
   ·simp only [Act.put,sp__,i64_w,i32_w]
    rfl
   refine take_ (i:=11) (N:=some 25) (v:=?_) (a':=?_) #[true,true,true,true,true,true,true,true,true,true,true,true,false,false,false,false] rfl rfl (by kernel_rfl) (fun _ _ _ h=>h) (Or.inl ⟨by rfl,?_⟩) hHeld ?_ ?_
   rotate_left
   ·rintro w' ⟨s0,s1,s2,s3⟩
    go_simp
    with_reducible rfl
   rotate_left
   ·simp only [Act.put,sp__,i64_w,i32_w]
    rfl
   refine pure_ (i:=12) (N:=some 26) (v:=?_) (a':=?_) #[true,true,true,true,true,true,true,true,true,true,true,true,true,false,false,false] rfl rfl (by kernel_rfl) (fun _ _ _ h=>h) (Or.inl ⟨by rfl,?_⟩) ?_ ?_
   rotate_left
   ·intro w'
    go_simp
    with_reducible rfl
   rotate_left
   ·simp only [Act.put,sp__,i64_w,i32_w]
    rfl
   refine last_ (i:=13) (N:=none) #[true,true,true,true,true,true,true,true,true,true,true,true,true,true,false,false] rfl rfl (by kernel_rfl) (by decide) (fun K hK=>?_)
   refine skip_ (w1:=?_) (by rfl) rfl ?_ ?_
   rotate_left
   ·go_simp
    rfl
   refine hK.out _ _ ?_
   clear hK K
   obtain ⟨r1,g1⟩:=putP HR.out p hpN y
   have r1d:=Kd.R_drew r1
   obtain ⟨z0,z1⟩:=elemP r1d q hqN
   have fz1:∀ o,(((wr.setCell ⟨g,p*2,none⟩ (.int .i64 y.f0)).setCell ⟨g,p*2+1,none⟩ (.int .i64 y.f1)).drew).frozen? ⟨g,o,none⟩=false:=(by obtain ⟨cells,hc⟩:=Kd.R_typed r1d g rfl;exact fun o=>blk_frozen hc _)
   have HG1:=Aside0.mk (grown_drew g1)
   have HR1:=Aside0.mk r1d
   clear r1 g1 r1d
   generalize hw1:((wr.setCell ⟨g,p*2,none⟩ (.int .i64 y.f0)).setCell ⟨g,p*2+1,none⟩ (.int .i64 y.f1)).drew=w1 at HG1 HR1 z0 z1 fz1 ⊢
   clear hw1
   refine pure_ (i:=14) (N:=some 27) (v:=?_) (a':=?_) #[true,true,true,true,true,true,true,true,true,true,true,true,true,true,true,false] rfl rfl (by kernel_rfl) (fun _ _ _ h=>h) (Or.inl ⟨by rfl,?_⟩) ?_ ?_
   rotate_left
   ·intro w'
    go_simp
    with_reducible rfl
   rotate_left
   ·simp only [Act.put,sp__,i64_w,i32_w]
    rfl
   refine last_ (i:=15) (N:=none) #[true,true,true,true,true,true,true,true,true,true,true,true,true,true,true,true] rfl rfl (by kernel_rfl) (by decide) (fun K hK=>?_)
   refine skip_ (w1:=?_) (by rfl) rfl ?_ ?_
   rotate_left
   ·go_simp
    rfl
   refine hK.out _ _ ?_
   clear hK K
   refine done_ (by kernel_rfl) ?_
   go_wp2_with (fail)
   obtain ⟨r2,g2⟩:=putP HR1.out q hqN x
   have HR2:=Aside0.mk (show Kd.R k159 159 _ base (fun _=>True) (.slice (some ⟨g,0,none⟩) 4 cap) (revS p0 p1 p2 p3 (p+1)) by
    have hq:q=3-p:=by have:=HPQ.out;omega
    rw [← revS_next p0 p1 p2 p3 p HLT.out,← hq,← HXX.out,← HYY.out]
    exact r2)
   have HG2:=Aside0.mk ((HG.out.trans HG1.out).trans g2)
   clear r2 g2 HG HG1 HR HR1
   go_roundg (2-(p+1))
   case rel=>exact ⟨p+1,q-1,by go_num,by have:=HPQ.out;have:=HLT.out;go_num,by have:=HPQ.out;have:=HLT.out;omega,by have:=HLT.out;omega,HR2,HG2⟩
   case measure=>have:=HLT.out;omega
  ·have hp2:p=2:=by omega
   have hq1:q=1:=by omega
   subst hp2 hq1
   go_wp2_with (fail)
   go_end0
   exact ⟨rfl,HR.out,HG.out⟩
end Go.Proofs.YtiioklboaookiaaGreatDoor.Q
namespace Go.Proofs.YtiioklboaookiaaGreatDoor.Q
open Go.RowKit Go.Proofs.YtiioklboaookiaaGreatDoorW.PrintWords Go.Proofs.YtiioklboaookiaaGreatDoorW.PrintLast Go.Proofs.YtiioklboaookiaaGreatDoor.Hand Go.Proofs.YtiioklboaookiaaGreatDoorW.PrintMore
attribute [local go_sem] max2_int min2_int max_two min_two max_three min_three max_four min_four
set_option linter.unusedVariables false
set_option linter.unusedSimpArgs false
theorem flat_cells {w:World} {ad:Addr} {n:Nat} {L:List Pt} (h:Kd.C k159 w (some ad) n L) (hn:n=L.length) (j:Nat) (u:Value) (hu:(L.flatMap encPt)[j]?=some u):w.cell? (ad.add j)=some u:=by
 have hlen:=flat_len encPt 2 (fun _=>rfl) L
 have hj:j<(L.flatMap encPt).length:=(List.getElem?_eq_some_iff.1 hu).1
 obtain ⟨i,r,hr,rfl⟩:∃ i r,r<2∧j=i*2+r:=⟨j / 2,j % 2,by omega,by omega⟩
 have hi:i<L.length:=by omega
 obtain ⟨ad',e,h0,h1⟩:=at_T159 h (i:Int) (by omega) (by omega)
 cases e
 rw [Int.toNat_natCast] at h0 h1
 have hp:L[i]?=some (rd_T159 L (i:Int)):=by
  unfold rd_T159;rw [Int.toNat_natCast,List.getD_eq_getElem?_getD,List.getElem?_eq_getElem hi];rfl
 have hd:=flat_drop encPt 2 (fun _=>rfl) L i _ hp
 have hg:(((L.flatMap encPt).drop (i*2)).take 2)[r]?=some u:=by
  rw [List.getElem?_take_of_lt hr,List.getElem?_drop];exact hu
 rw [hd] at hg
 unfold encPt at hg
 match r,hr with
 | 0,_=>injection hg with hg;rw [← hg];exact h0
 | 1,_=>injection hg with hg;rw [← hg,add_field _ _ 1 (by omega)];exact h1
theorem flat_take (L:List Pt) (m j:Nat) (u:Value) (hu:((L.take m).flatMap encPt)[j]?=some u):(L.flatMap encPt)[j]?=some u:=by
 have e:L.flatMap encPt=(L.take m).flatMap encPt++(L.drop m).flatMap encPt:=by rw [← List.flatMap_append,List.take_append_drop]
 rw [e,List.getElem?_append_left (List.getElem?_eq_some_iff.1 hu).1];exact hu
theorem R_grown_pts {w1:World} {base:Nat} {v:Value} {L:List Pt} (h:w1.ownsRow base 159 2 v L.length (L.flatMap encPt)):Kd.R k159 159 w1 base (fun _=>True) v L:=by
 refine ⟨fun _ _=>trivial,L.flatMap encPt,h,flat_len encPt 2 (fun _=>rfl) L,fun j p hp=>?_⟩
 have hsz:k159.sz=2:=rfl
 rw [hsz,flat_drop encPt 2 (fun _=>rfl) L j p hp]
 exact k159_mkM _ _ _ p
def outS (q0 q1 q2 q3:Pt):Nat→List Pt
 | 0=>[]
 | 1=>[q0]
 | 2=>[q0,q1]
 | 3=>[q0,q2]
 | _=>[q0,q2,q3]
def inS:Nat→Nat
 | 0=>0
 | 1=>1
 | 2=>1
 | _=>2
theorem outS_len (q0 q1 q2 q3:Pt) (k:Nat) (h:k<4):(outS q0 q1 q2 q3 k).length≤2∧inS k≤(outS q0 q1 q2 q3 k).length∧(k≤1→(outS q0 q1 q2 q3 k).length≤1∧inS k=(outS q0 q1 q2 q3 k).length)∧(2≤k→(outS q0 q1 q2 q3 k).length=2):=by
 have:k=0∨k=1∨k=2∨k=3:=by omega
 rcases this with rfl|rfl|rfl|rfl <;> simp [outS,inS]
theorem outS_next (q0 q1 q2 q3:Pt) (k:Nat) (h:k<4):(outS q0 q1 q2 q3 k).take (inS k)++[rd_T159 [q0,q1,q2,q3] (k:Int)]=outS q0 q1 q2 q3 (k+1):=by
 have:k=0∨k=1∨k=2∨k=3:=by omega
 rcases this with rfl|rfl|rfl|rfl <;> rfl
theorem turn_at (q0 q1 q2 q3:Pt) (t1:plane_turn.f q0.f0 q0.f1 q1.f0 q1.f1 q2.f0 q2.f1=some (-1)) (t2:plane_turn.f q0.f0 q0.f1 q2.f0 q2.f1 q3.f0 q3.f1=some 1) (k:Nat) (h2:2≤k) (h4:k<4) :
  ∃ t,plane_turn.f (rd_T159 (outS q0 q1 q2 q3 k) 0).f0 (rd_T159 (outS q0 q1 q2 q3 k) 0).f1 (rd_T159 (outS q0 q1 q2 q3 k) 1).f0 (rd_T159 (outS q0 q1 q2 q3 k) 1).f1 (rd_T159 [q0,q1,q2,q3] (k:Int)).f0 (rd_T159 [q0,q1,q2,q3] (k:Int)).f1=some t∧((t≤0∧inS k=1)∨(0<t∧inS k=2)):=by
 have:k=2∨k=3:=by omega
 rcases this with rfl|rfl
 ·exact ⟨-1,t1,.inl ⟨by decide,rfl⟩⟩
 ·exact ⟨1,t2,.inr ⟨by decide,rfl⟩⟩
theorem R_A {e:Nat} {w:World} {base n c:Nat} {A:Option Addr} {L:List Pt} {ok:Nat→Prop} (h:Kd.R k159 e w base ok (.slice A n c) L):(A=none∧n=0∧c=0)∨∃ gl,A=some ⟨gl,0,none⟩∧gl<w.heap.size:=by
 obtain ⟨_,inner,ho,_⟩:=h
 rcases ho.2 with ⟨hv,hz⟩ | ⟨g,cap,cur,hv,hbg,hh,_⟩
 ·cases hv;exact .inl ⟨rfl,rfl,rfl⟩
 ·cases hv;exact .inr ⟨g,rfl,lt_of_some hh⟩
set_option maxHeartbeats 8000000 in
set_option maxRecDepth 100000 in
theorem chain_walk (q0 q1 q2 q3:Pt) (g cap:Nat) (w:World) (h:Kd.C k159 w (some ⟨g,0,none⟩) 4 [q0,q1,q2,q3]) (t1:plane_turn.f q0.f0 q0.f1 q1.f0 q1.f1 q2.f0 q2.f1=some (-1)) (t2:plane_turn.f q0.f0 q0.f1 q2.f0 q2.f1 q3.f0 q3.f1=some 1) :
  Calls Tryz.prog 119 #[.slice (some ⟨g,0,none⟩) 4 cap] w fun e w'=>∃ v,e=.returned v∧Kd.R k159 159 w' w.heap.size (fun _=>True) v [q0,q2,q3]∧Below w.heap.size w w':=by
 have HC:=Aside0.mk h
 have HT1:=hid t1
 have HT2:=hid t2
 clear h t1 t2
 obtain ⟨B,hB⟩:∃ B,B=w.heap.size:=⟨_,rfl⟩
 have HBE:=hid hB
 have HR0:=Aside0.mk (Kd.R_nil k159 159 w B (fun _=>True))
 have HB0:Aside0 (Below B w w):=⟨Below.refl _ _⟩
 rw [← hB]
 clear hB
 go_enter Tryz.func119,Tryz.ntmps119
 go_wp2_with (fail)
 go_loopg [3,9] 4 (fun kq v3 v9 w'=>∃ k:Nat,v9=.int .i64 k∧k+kq=4∧Aside0 (Kd.R k159 159 w' B (fun _=>True) v3 (outS q0 q1 q2 q3 k))∧Aside0 (Below B w w'))
 case atStart=>exact ⟨0,rfl,rfl,HR0,HB0⟩
 case round =>
  clear HR0 HB0
  obtain ⟨k,rfl,hk,HR,HB⟩:=hrel
  by_cases hlt:k<4
  ·have d1:decide ((k:Int)<4)=true:=decide_eq_true (by omega)
   have k0:(0:Int)≤(k:Int):=by omega
   have k1:(k:Int)<4:=by omega
   have HCr:=Aside0.mk (Kd.C_below HC.out (by have h:=HB.out;rw [HBE.out] at h;exact h))
   obtain ⟨ad,e0,hx0,hx1⟩:=at_T159 HCr.out (k:Int) k0 k1
   cases e0
   rw [Int.toNat_natCast] at hx0 hx1
   simp only [add_plain] at hx0 hx1
   obtain ⟨p,hp⟩:∃ p,p=rd_T159 [q0,q1,q2,q3] (k:Int):=⟨_,rfl⟩
   rw [← hp] at hx0 hx1
   have HP:=hid hp
   obtain ⟨A,c,rfl,hlc,hC⟩:=Kd.R_reads HR.out
   obtain ⟨L,hL⟩:∃ L,L=outS q0 q1 q2 q3 k:=⟨_,rfl⟩
   have HL:=hid hL
   rw [← hL] at hC hlc HR ⊢
   have hln:=outS_len q0 q1 q2 q3 k hlt
   rw [← hL] at hln
   obtain ⟨m0,hm0⟩:∃ m0,m0=L.length:=⟨_,rfl⟩
   rw [← hm0] at hC hlc hln ⊢
   have HM0:=hid hm0
   have HLN:=hid hln
   have HCL:=Aside0.mk hC
   have HLT:=hid hlt
   clear hp hL hm0 hln hC hlt
   have HRA:=hid (R_A HR.out)
   have HX:=hid (show (wr.alloc (.cells #[.int .i64 p.f0,.int .i64 p.f1] 159)).cell? ⟨wr.heap.size,0,none⟩=some (.int .i64 p.f0)∧(wr.alloc (.cells #[.int .i64 p.f0,.int .i64 p.f1] 159)).cell? ⟨wr.heap.size,1,none⟩=some (.int .i64 p.f1) from ⟨by rw [World.cell?_alloc_new];rfl,by rw [World.cell?_alloc_new];rfl⟩)
   have HCA:=Aside0.mk (Kd.C_alloc HCL.out (.cells #[.int .i64 p.f0,.int .i64 p.f1] 159))
   have HBA:=Aside0.mk (show Below B w (wr.alloc (.cells #[.int .i64 p.f0,.int .i64 p.f1] 159)) from HB.out.alloc (by rw [HBE.out];exact HB.out.size) _)
   obtain ⟨pb,hpb⟩:∃ pb,pb=wr.heap.size:=⟨_,rfl⟩
   go_wp2_with (fail)
   rw [← hpb] at HX ⊢
   obtain ⟨W1,hW1⟩:∃ W1,W1=wr.alloc (.cells #[.int .i64 p.f0,.int .i64 p.f1] 159):=⟨_,rfl⟩
   rw [← hW1] at HX HCA HBA ⊢
   have HPB:=hid (show pb<W1.heap.size by rw [hW1,hpb];simp)
   have HBW:=hid (show B≤W1.heap.size by rw [hW1];have h:=HB.out.size;rw [← HBE.out] at h;simp;omega)
   have HRW:=hid (show (A=none∧m0=0∧c=0)∨∃ gl,A=some ⟨gl,0,none⟩∧gl<W1.heap.size by
    rcases HRA.out with ⟨h1,h2,h3⟩ | ⟨gl,h1,h2⟩
    ·exact .inl ⟨h1,HM0.out.trans h2,h3⟩
    ·exact .inr ⟨gl,h1,by rw [hW1];simp;omega⟩)
   clear hW1 hpb HCr HCL HB HR HRA hx0 hx1
   go_loopg [6] m0 (fun kq v6 w'=>∃ m:Nat,v6=.int .i64 m∧m=kq∧Hid (m=m0∨(m0=2∧2≤k∧m=1∧inS k=1))∧Aside0 (Below W1.heap.size W1 w'))
   case atStart=>exact ⟨m0,rfl,rfl,hid (.inl rfl),⟨Below.refl _ _⟩⟩
   case round =>
    obtain ⟨m,rfl,hmk,HM,HBI⟩:=hrel
    by_cases hm2:m=2
    ·subst hm2
     have hm0:m0=2:=by rcases HM.out with h|h <;> omega
     have hk2:2≤k:=by have:=HLN.out.2.2.1;omega
     obtain ⟨t,ht,htc⟩:=turn_at q0 q1 q2 q3 HT1.out HT2.out k hk2 HLT.out
     rw [← HL.out,← HP.out] at ht
     have HTC:=hid htc
     obtain ⟨gl,hA⟩:∃ gl,A=some ⟨gl,0,none⟩:=by
      rcases HRW.out with ⟨_,h,_⟩ | ⟨gl,h,_⟩
      ·omega
      ·exact ⟨gl,h⟩
     have HCI:=Kd.C_below HCA.out HBI.out
     obtain ⟨ad,e0,hx0,hx1⟩:=at_T159 HCI 0 (by omega) (by omega)
     obtain ⟨ad2,e1,hy0,hy1⟩:=at_T159 HCI 1 (by omega) (by omega)
     rw [hA] at e0 e1
     cases e0
     cases e1
     obtain ⟨x,hx⟩:∃ x,x=rd_T159 L 0:=⟨_,rfl⟩
     obtain ⟨y,hy⟩:∃ y,y=rd_T159 L 1:=⟨_,rfl⟩
     rw [← hx] at hx0 hx1 ht
     rw [← hy] at hy0 hy1 ht
     have HT:=hid ht
     have hz0:=pw_cell_below HBI.out HX.out.1
     have hz1:=pw_cell_below HBI.out HX.out.2
     have HS:=hid (show wr.drew.cell? ⟨gl,0,none⟩=some (.int .i64 x.f0)∧wr.drew.cell? ⟨gl,1,none⟩=some (.int .i64 x.f1)∧wr.drew.cell? ⟨gl,2,none⟩=some (.int .i64 y.f0)∧wr.drew.cell? ⟨gl,3,none⟩=some (.int .i64 y.f1)∧wr.drew.cell? ⟨pb,0,none⟩=some (.int .i64 p.f0)∧wr.drew.cell? ⟨pb,1,none⟩=some (.int .i64 p.f1) from ⟨hx0,hx1,hy0,hy1,hz0,hz1⟩)
     have HMK:=hid hmk
     have HK2:=hid hk2
     have HM0':=hid hm0
     clear HCI hx hy ht htc hmk hk2 hz0 hz1 hx0 hx1 hy0 hy1
     subst hA
     subst hm0
     have w0:wrap64 0=0:=w64_in _ (by omega) (by omega)
     have w1:wrap64 1=1:=w64_in _ (by omega) (by omega)
     go_wp2_with (fail)
     refine start_ (n:=17) (S:=fun w'=>w'.cell? ⟨gl,0,none⟩=some (.int .i64 x.f0)∧w'.cell? ⟨gl,1,none⟩=some (.int .i64 x.f1)∧w'.cell? ⟨gl,2,none⟩=some (.int .i64 y.f0)∧w'.cell? ⟨gl,3,none⟩=some (.int .i64 y.f1)∧w'.cell? ⟨pb,0,none⟩=some (.int .i64 p.f0)∧w'.cell? ⟨pb,1,none⟩=some (.int .i64 p.f1)) (ds:=[]) #[false,false,false,false,false,false,false,false,false,false,false,false,false,false,false,false,false] (by kernel_rfl) rfl rfl HS.out (fun hHeld=>?_)
     refine pure_ (i:=0) (N:=some 15) (v:=?_) (a':=?_) #[true,false,false,false,false,false,false,false,false,false,false,false,false,false,false,false,false] rfl rfl (by kernel_rfl) (fun _ _ _ h=>h) (Or.inl ⟨by rfl,?_⟩) ?_ ?_
     rotate_left
     ·intro w'
      go_simp
      with_reducible rfl
     rotate_left
     ·simp only [Act.put,sp__,i64_w,i32_w]
      rfl
     refine pure_ (i:=1) (N:=some 16) (v:=?_) (a':=?_) #[true,true,false,false,false,false,false,false,false,false,false,false,false,false,false,false,false] rfl rfl (by kernel_rfl) (fun _ _ _ h=>h) (Or.inl ⟨by rfl,?_⟩) ?_ ?_
     rotate_left
     ·intro w'
      go_simp
      with_reducible rfl
     rotate_left
     ·simp only [Act.put,sp__,i64_w,i32_w]
      rfl
     refine pure_ (i:=2) (N:=some 17) (v:=?_) (a':=?_) #[true,true,true,false,false,false,false,false,false,false,false,false,false,false,false,false,false] rfl rfl (by kernel_rfl) (fun _ _ _ h=>h) (Or.inl ⟨by rfl,?_⟩) ?_ ?_
     rotate_left
     ·intro w'
      go_simp
      with_reducible rfl
     rotate_left
     ·simp only [Act.put,sp__,i64_w,i32_w]
      rfl
     refine pure_ (i:=3) (N:=some 18) (v:=?_) (a':=?_) #[true,true,true,true,false,false,false,false,false,false,false,false,false,false,false,false,false] rfl rfl (by kernel_rfl) (fun _ _ _ h=>h) (Or.inl ⟨by rfl,?_⟩) ?_ ?_
     rotate_left
     ·intro w'
      go_simp
      with_reducible rfl
     rotate_left
     ·simp only [Act.put,sp__,i64_w,i32_w]
      rfl
     refine pure_ (i:=4) (N:=some 19) (v:=?_) (a':=?_) #[true,true,true,true,true,false,false,false,false,false,false,false,false,false,false,false,false] rfl rfl (by kernel_rfl) (fun _ _ _ h=>h) (Or.inl ⟨by rfl,?_⟩) ?_ ?_
     rotate_left
     ·intro w'
      go_simp
      with_reducible rfl
     rotate_left
     ·simp only [Act.put,sp__,i64_w,i32_w]
      rfl
     refine pure_ (i:=5) (N:=some 20) (v:=?_) (a':=?_) #[true,true,true,true,true,true,false,false,false,false,false,false,false,false,false,false,false] rfl rfl (by kernel_rfl) (fun _ _ _ h=>h) (Or.inl ⟨by rfl,?_⟩) ?_ ?_
     rotate_left
     ·intro w'
      go_simp
      with_reducible rfl
     rotate_left
     ·simp only [Act.put,sp__,i64_w,i32_w]
      rfl
     refine pure_ (i:=6) (N:=some 21) (v:=?_) (a':=?_) #[true,true,true,true,true,true,true,false,false,false,false,false,false,false,false,false,false] rfl rfl (by kernel_rfl) (fun _ _ _ h=>h) (Or.inl ⟨by rfl,?_⟩) ?_ ?_
     rotate_left
     ·intro w'
      go_simp
      with_reducible rfl
     rotate_left
     ·simp only [Act.put,sp__,i64_w,i32_w]
      rfl
     refine take_ (i:=7) (N:=some 22) (v:=?_) (a':=?_) #[true,true,true,true,true,true,true,true,false,false,false,false,false,false,false,false,false] rfl rfl (by kernel_rfl) (fun _ _ _ h=>h) (Or.inl ⟨by rfl,?_⟩) hHeld ?_ ?_
     rotate_left
     ·rintro w' ⟨s0,s1,s2,s3,s4,s5⟩
      go_simp
      with_reducible rfl
     rotate_left
     ·simp only [Act.put,sp__,i64_w,i32_w]
      rfl
     refine pure_ (i:=8) (N:=some 23) (v:=?_) (a':=?_) #[true,true,true,true,true,true,true,true,true,false,false,false,false,false,false,false,false] rfl rfl (by kernel_rfl) (fun _ _ _ h=>h) (Or.inl ⟨by rfl,?_⟩) ?_ ?_
     rotate_left
     ·intro w'
      go_simp
      with_reducible rfl
     rotate_left
     ·simp only [Act.put,sp__,i64_w,i32_w]
      rfl
     refine pure_ (i:=9) (N:=some 24) (v:=?_) (a':=?_) #[true,true,true,true,true,true,true,true,true,true,false,false,false,false,false,false,false] rfl rfl (by kernel_rfl) (fun _ _ _ h=>h) (Or.inl ⟨by rfl,?_⟩) ?_ ?_
     rotate_left
     ·intro w'
      go_simp
      with_reducible rfl
     rotate_left
     ·simp only [Act.put,sp__,i64_w,i32_w]
      rfl
     refine pure_ (i:=10) (N:=some 25) (v:=?_) (a':=?_) #[true,true,true,true,true,true,true,true,true,true,true,false,false,false,false,false,false] rfl rfl (by kernel_rfl) (fun _ _ _ h=>h) (Or.inl ⟨by rfl,?_⟩) ?_ ?_
     rotate_left
     ·intro w'
      go_simp
      with_reducible rfl
     rotate_left
     ·simp only [Act.put,sp__,i64_w,i32_w]
      rfl
     refine pure_ (i:=11) (N:=some 26) (v:=?_) (a':=?_) #[true,true,true,true,true,true,true,true,true,true,true,true,false,false,false,false,false] rfl rfl (by kernel_rfl) (fun _ _ _ h=>h) (Or.inl ⟨by rfl,?_⟩) ?_ ?_
     rotate_left
     ·intro w'
      go_simp
      with_reducible rfl
     rotate_left
     ·simp only [Act.put,sp__,i64_w,i32_w]
      rfl
     refine take_ (i:=12) (N:=some 27) (v:=?_) (a':=?_) #[true,true,true,true,true,true,true,true,true,true,true,true,true,false,false,false,false] rfl rfl (by kernel_rfl) (fun _ _ _ h=>h) (Or.inl ⟨by rfl,?_⟩) hHeld ?_ ?_
     rotate_left
     ·rintro w' ⟨s0,s1,s2,s3,s4,s5⟩
      go_simp
      with_reducible rfl
     rotate_left
     ·simp only [Act.put,sp__,i64_w,i32_w]
      rfl
     refine take_ (i:=13) (N:=some 28) (v:=?_) (a':=?_) #[true,true,true,true,true,true,true,true,true,true,true,true,true,true,false,false,false] rfl rfl (by kernel_rfl) (fun _ _ _ h=>h) (Or.inl ⟨by rfl,?_⟩) hHeld ?_ ?_
     rotate_left
     ·rintro w' ⟨s0,s1,s2,s3,s4,s5⟩
      go_simp
      with_reducible rfl
     rotate_left
     ·simp only [Act.put,sp__,i64_w,i32_w]
      rfl
     refine one_ (i:=14) (N:=some 29) #[true,true,true,true,true,true,true,true,true,true,true,true,true,true,true,false,false] rfl rfl (by kernel_rfl) (by decide) (fun K hK=>?_)
     refine goes_ Tryz.func114 (by kernel_rfl) rfl #[.agg #[.int .i64 x.f0,.int .i64 x.f1],.agg #[.int .i64 y.f0,.int .i64 y.f1],.agg #[.int .i64 p.f0,.int .i64 p.f1]] (by rfl) rfl rfl (by (try simp only [List.map_toArray,List.map_cons,List.map_nil]);first|done|rfl) ?_
     refine (plane_turn.calls x.f0 x.f1 y.f0 y.f1 p.f0 p.f1 t _ HT.out).mono ?_
     rintro e w9 ⟨rfl,hb9⟩
     have HB9:=Aside0.mk hb9
     clear hb9
     refine ⟨_,rfl,?_⟩
     refine hK.out _ _ ⟨pw_cell_below HB9.out HS.out.1,pw_cell_below HB9.out HS.out.2.1,pw_cell_below HB9.out HS.out.2.2.1,pw_cell_below HB9.out HS.out.2.2.2.1,pw_cell_below HB9.out HS.out.2.2.2.2.1,pw_cell_below HB9.out HS.out.2.2.2.2.2⟩ (fun hHeld=>?_)
     clear hK K
     refine norm_ (a':=?_) ?_ ?_
     rotate_left
     ·show Act.put _ (some 29) _=_
      simp only [Act.put,sp__,i64_w,i32_w]
      rfl
     refine pure_ (i:=15) (N:=some 30) (v:=?_) (a':=?_) #[true,true,true,true,true,true,true,true,true,true,true,true,true,true,true,true,false] rfl rfl (by kernel_rfl) (fun _ _ _ h=>h) (Or.inl ⟨by rfl,?_⟩) ?_ ?_
     rotate_left
     ·intro w'
      go_simp
      with_reducible rfl
     rotate_left
     ·simp only [Act.put,sp__,i64_w,i32_w]
      rfl
     refine pure_ (i:=16) (N:=some 31) (v:=?_) (a':=?_) #[true,true,true,true,true,true,true,true,true,true,true,true,true,true,true,true,true] rfl rfl (by kernel_rfl) (fun _ _ _ h=>h) (Or.inl ⟨by rfl,?_⟩) ?_ ?_
     rotate_left
     ·intro w'
      go_simp
      with_reducible rfl
     rotate_left
     ·simp only [Act.put,sp__,i64_w,i32_w]
      rfl
     refine done_ (by kernel_rfl) ?_
     have HB9':=Aside0.mk (HBI.out.drew.trans (HB9.out.mono HBI.out.size))
     clear HBI HB9
     have HBI:=HB9'
     clear HB9'
     rcases HTC.out with ⟨h1,h2⟩ | ⟨h1,h2⟩
     ·have d5:decide (t≤0)=true:=decide_eq_true h1
      have H2:=hid h2
      clear h2
      go_wp2_with (fail)
      go_roundg 1
      case rel=>exact ⟨1,by go_num,rfl,hid (.inr ⟨HM0'.out,HK2.out,rfl,H2.out⟩),HBI⟩
      case measure=>have:=HMK.out;omega
     ·have d5:decide (t≤0)=false:=decide_eq_false (by omega)
      have h1' : ¬ t≤0:=by omega
      have HMI:=hid (show 2=inS k from h2.symm)
      clear h1 h2
      go_wp2_with (fail)
      have hmle:2≤L.length:=by have:=HMI.out;have:=HLN.out.2.1;have:=HM0.out;omega
      have hm2' : 2≤2:=by have:=HLN.out.1;omega
      have hmc:2≤c:=by have:=HM0.out;omega
      have hmc2:(2:Int)≤(c:Int):=by omega
      have HTK:=hid (show (L.take 2).length=2 by rw [List.length_take];omega)
      have HCT:=Aside0.mk (Kd.C_below (Kd.C_below HCA.out HBI.out.drew) (below_alloc (Below.refl w9.drew.heap.size w9.drew) (.cells #[.int .i64 p.f0,.int .i64 p.f1] 159)))
      have HBZ:=hid (show B≤w9.heap.size by have:=HBI.out.size;have:=HBW.out;omega)
      have HPL:=hid (show pb<w9.heap.size by have:=HBI.out.size;have:=HPB.out;omega)
      have HS:=hid (show w9.drew.cell? ⟨pb,0,none⟩=some (.int .i64 p.f0)∧w9.drew.cell? ⟨pb,1,none⟩=some (.int .i64 p.f1) from ⟨pw_cell_below HBI.out HX.out.1,pw_cell_below HBI.out HX.out.2⟩)
      obtain ⟨ip,hip,hzz⟩:=Option.map_eq_some_iff.1 info159
      simp only [Prod.mk.injEq] at hzz
      obtain ⟨hiz,his,hib⟩:=hzz
      have HI:=hid (And.intro hip (And.intro hiz (And.intro his hib)))
      clear hip hiz his hib
      refine start_ (n:=8) (S:=fun w'=>w'.cell? ⟨pb,0,none⟩=some (.int .i64 p.f0)∧w'.cell? ⟨pb,1,none⟩=some (.int .i64 p.f1)) (ds:=[]) #[false,false,false,false,false,false,false,false] (by kernel_rfl) rfl rfl HS.out (fun hHeld=>?_)
      refine pure_ (i:=0) (N:=some 34) (v:=?_) (a':=?_) #[true,false,false,false,false,false,false,false] rfl rfl (by kernel_rfl) (fun _ _ _ h=>h) (Or.inl ⟨by rfl,?_⟩) ?_ ?_
      rotate_left
      ·intro w'
       go_simp
       with_reducible rfl
      rotate_left
      ·simp only [Act.put,sp__,i64_w,i32_w]
       rfl
      refine pure_ (i:=1) (N:=some 35) (v:=?_) (a':=?_) #[true,true,false,false,false,false,false,false] rfl rfl (by kernel_rfl) (fun _ _ _ h=>h) (Or.inl ⟨by rfl,?_⟩) ?_ ?_
      rotate_left
      ·intro w'
       go_simp
       with_reducible rfl
      rotate_left
      ·simp only [Act.put,sp__,i64_w,i32_w]
       rfl
      refine pure_ (i:=2) (N:=some 36) (v:=?_) (a':=?_) #[true,true,true,false,false,false,false,false] rfl rfl (by kernel_rfl) (fun _ _ _ h=>h) (Or.inl ⟨by rfl,?_⟩) ?_ ?_
      rotate_left
      ·intro w'
       go_simp
       with_reducible rfl
      rotate_left
      ·simp only [Act.put,sp__,i64_w,i32_w]
       rfl
      refine pure_ (i:=3) (N:=some 37) (v:=?_) (a':=?_) #[true,true,true,true,false,false,false,false] rfl rfl (by kernel_rfl) (fun _ _ _ h=>h) (Or.inl ⟨by rfl,?_⟩) ?_ ?_
      rotate_left
      ·intro w'
       go_simp
       with_reducible rfl
      rotate_left
      ·simp only [Act.put,sp__,i64_w,i32_w]
       rfl
      refine take_ (i:=4) (N:=some 38) (v:=?_) (a':=?_) #[true,true,true,true,true,false,false,false] rfl rfl (by kernel_rfl) (fun _ _ _ h=>h) (Or.inl ⟨by rfl,?_⟩) hHeld ?_ ?_
      rotate_left
      ·rintro w' ⟨s0,s1⟩
       go_simp
       with_reducible rfl
      rotate_left
      ·simp only [Act.put,sp__,i64_w,i32_w]
       rfl
      refine one_ (i:=5) (N:=some 39) #[true,true,true,true,true,true,false,false] rfl rfl (by kernel_rfl) (by decide) (fun K hK=>?_)
      refine value_ (w1:=?_) (v:=?_) (by rfl) rfl ?_ ?_
      rotate_left 2
      ·go_simp
       first|(refine ⟨?_,?_⟩ <;> rfl)|rfl
      refine hK.out _ _ ⟨pw_cell_below (below_alloc (Below.refl _ _) _) HS.out.1,pw_cell_below (below_alloc (Below.refl _ _) _) HS.out.2⟩ (fun hHeld=>?_)
      clear hK K
      refine norm_ (a':=?_) ?_ ?_
      rotate_left
      ·show Act.put _ (some 39) _=_
       simp only [Act.put,sp__,i64_w,i32_w]
       rfl
      refine one_ (i:=6) (N:=some 40) #[true,true,true,true,true,true,true,false] rfl rfl (by kernel_rfl) (by decide) (fun K hK=>?_)
      refine step_append_grows rfl (.tmp 37) (.tmp 39) 133 rfl 159 ip (.agg #[.int .i64 0,.int .i64 0]) 2 16 Tryz.underlying133 HI.out.1 HI.out.2.1 HI.out.2.2.1 HI.out.2.2.2 rfl (by decide) (some ⟨gl,0,none⟩) 2 2 ((L.take 2).flatMap encPt) rfl ?aN ?aO ?aP ⟨w9.drew.heap.size,0,none⟩ 1 1 [.int .i64 p.f0,.int .i64 p.f1] rfl rfl ?aC ?aD (by omega) ?aE ?aF ?_
      (case aN=>exact fun h=>by cases h)
      (case aO=>rw [flat_len encPt 2 (fun _=>rfl),HTK.out])
      (case aP=>exact fun b hb j u hu=>by cases hb;exact flat_cells HCT.out HM0.out j u (flat_take L _ j u hu))
      (case aC=>intro j u hu;have:=World.news_of_block (heap_alloc_new w9.drew (.cells #[.int .i64 p.f0,.int .i64 p.f1] 159)) j u hu;exact this)
      (case aD=>intro u hu;simp at hu;rcases hu with rfl|rfl <;> rfl)
      (case aE=>unfold maxLen;omega)
      (case aF=>omega)
      intro v6 w6 ho hg
      have HO6:=hid ho
      have HG6:=Aside0.mk (show Below w9.drew.heap.size w9.drew w6 from pw_below_grown (below_alloc (Below.refl w9.drew.heap.size w9.drew) (.cells #[.int .i64 p.f0,.int .i64 p.f1] 159)) none (by simp) hg (fun _ h=>by cases h))
      clear ho hg
      refine hK.out _ _ ⟨pw_cell_below HG6.out HS.out.1,pw_cell_below HG6.out HS.out.2⟩ (fun hHeld=>?_)
      clear hK K
      refine norm_ (a':=?_) ?_ ?_
      rotate_left
      ·show Act.put _ (some 40) _=_
       simp only [Act.put,sp__,i64_w,i32_w]
       rfl
      refine pure_ (i:=7) (N:=some 3) (v:=?_) (a':=?_) #[true,true,true,true,true,true,true,true] rfl rfl (by kernel_rfl) (fun _ _ _ h=>h) (Or.inl ⟨by rfl,?_⟩) ?_ ?_
      rotate_left
      ·intro w'
       go_simp
       with_reducible rfl
      rotate_left
      ·simp only [Act.put,sp__,i64_w,i32_w]
       rfl
      refine done_ (by kernel_rfl) ?_
      go_wp2_with (fail)
      have HR6:=Aside0.mk (show Kd.R k159 159 w6 B (fun _=>True) v6 (outS q0 q1 q2 q3 (k+1)) by
       have h:L.take (inS k)++[p]=outS q0 q1 q2 q3 (k+1):=by rw [HL.out,HP.out];exact outS_next q0 q1 q2 q3 k HLT.out
       rw [← HMI.out] at h
       rw [← h]
       refine R_grown_pts (own_weaken (base:=(w9.drew.alloc (.cells #[.int .i64 p.f0,.int .i64 p.f1] 159)).heap.size) ?_ (by have:=HBZ.out;simp;omega))
       have ho:=HO6.out
       rw [show (L.take 2++[p]).length=2+1 by rw [List.length_append,HTK.out];rfl,List.flatMap_append]
       exact ho)
      have HB6:=Aside0.mk (show Below B w w6 from below_then HBA.out HBW.out (HBI.out.drew.trans (HG6.out.mono HBI.out.size)))
      go_roundg (4-(k+1))
      case rel=>exact ⟨k+1,by go_num,by have:=HLT.out;omega,HR6,HB6⟩
      case measure=>have:=HLT.out;omega
    ·have hm1:m≤1:=by have:=HLN.out.1;rcases HM.out with h|h <;> omega
     have d5:decide ((2:Int)≤(m:Int))=false:=decide_eq_false (by omega)
     have h5:¬ (2:Int)≤(m:Int):=by omega
     have h6:¬ 2≤m:=by omega
     have HMI:=hid (show m=inS k by
      have h1:=HLN.out.2.2
      rcases HM.out with h|h
      ·have:k≤1:=by
        by_cases q:2≤k
        ·have:=h1.2 q;omega
        ·omega
       have:=(h1.1 this).2;omega
      ·exact h.2.2.1.trans h.2.2.2.symm)
     have HMK:=hid hmk
     clear hmk hm2
     go_wp2_with (fail)
     go_quiet (fail)
     obtain ⟨w9,hw9⟩:∃ w9,w9=wr.drewN nq:=⟨_,rfl⟩
     have HB9:=Aside0.mk (show Below W1.heap.size W1 w9 by rw [hw9];exact pw_below_drewN HBI.out nq)
     rw [← hw9]
     clear hw9 HBI
     have HBI:=HB9
     clear HB9
     rcases HRW.out with ⟨hA,hm0,hc⟩ | ⟨gl,hA,_⟩
     ·have hmz:m=0:=by rcases HM.out with h|h <;> omega
      subst hA hc hm0 hmz
      go_wp2_with (fail)
      have hmle:0≤L.length:=by have:=HMI.out;have:=HLN.out.2.1;have:=HM0.out;omega
      have hm2' : 0≤2:=by have:=HLN.out.1;omega
      have hmc:0≤0:=by have:=HM0.out;omega
      have hmc2:(0:Int)≤(0:Int):=by omega
      have HTK:=hid (show (L.take 0).length=0 by rw [List.length_take];omega)
      have HCT:=Aside0.mk (Kd.C_below (Kd.C_below HCA.out HBI.out.drew) (below_alloc (Below.refl w9.drew.heap.size w9.drew) (.cells #[.int .i64 p.f0,.int .i64 p.f1] 159)))
      have HBZ:=hid (show B≤w9.heap.size by have:=HBI.out.size;have:=HBW.out;omega)
      have HPL:=hid (show pb<w9.heap.size by have:=HBI.out.size;have:=HPB.out;omega)
      have HS:=hid (show w9.drew.cell? ⟨pb,0,none⟩=some (.int .i64 p.f0)∧w9.drew.cell? ⟨pb,1,none⟩=some (.int .i64 p.f1) from ⟨pw_cell_below HBI.out HX.out.1,pw_cell_below HBI.out HX.out.2⟩)
      obtain ⟨ip,hip,hzz⟩:=Option.map_eq_some_iff.1 info159
      simp only [Prod.mk.injEq] at hzz
      obtain ⟨hiz,his,hib⟩:=hzz
      have HI:=hid (And.intro hip (And.intro hiz (And.intro his hib)))
      clear hip hiz his hib
      refine start_ (n:=8) (S:=fun w'=>w'.cell? ⟨pb,0,none⟩=some (.int .i64 p.f0)∧w'.cell? ⟨pb,1,none⟩=some (.int .i64 p.f1)) (ds:=[]) #[false,false,false,false,false,false,false,false] (by kernel_rfl) rfl rfl HS.out (fun hHeld=>?_)
      refine pure_ (i:=0) (N:=some 34) (v:=?_) (a':=?_) #[true,false,false,false,false,false,false,false] rfl rfl (by kernel_rfl) (fun _ _ _ h=>h) (Or.inl ⟨by rfl,?_⟩) ?_ ?_
      rotate_left
      ·intro w'
       go_simp
       with_reducible rfl
      rotate_left
      ·simp only [Act.put,sp__,i64_w,i32_w]
       rfl
      refine pure_ (i:=1) (N:=some 35) (v:=?_) (a':=?_) #[true,true,false,false,false,false,false,false] rfl rfl (by kernel_rfl) (fun _ _ _ h=>h) (Or.inl ⟨by rfl,?_⟩) ?_ ?_
      rotate_left
      ·intro w'
       go_simp
       with_reducible rfl
      rotate_left
      ·simp only [Act.put,sp__,i64_w,i32_w]
       rfl
      refine pure_ (i:=2) (N:=some 36) (v:=?_) (a':=?_) #[true,true,true,false,false,false,false,false] rfl rfl (by kernel_rfl) (fun _ _ _ h=>h) (Or.inl ⟨by rfl,?_⟩) ?_ ?_
      rotate_left
      ·intro w'
       go_simp
       with_reducible rfl
      rotate_left
      ·simp only [Act.put,sp__,i64_w,i32_w]
       rfl
      refine pure_ (i:=3) (N:=some 37) (v:=?_) (a':=?_) #[true,true,true,true,false,false,false,false] rfl rfl (by kernel_rfl) (fun _ _ _ h=>h) (Or.inl ⟨by rfl,?_⟩) ?_ ?_
      rotate_left
      ·intro w'
       go_simp
       with_reducible rfl
      rotate_left
      ·simp only [Act.put,sp__,i64_w,i32_w]
       rfl
      refine take_ (i:=4) (N:=some 38) (v:=?_) (a':=?_) #[true,true,true,true,true,false,false,false] rfl rfl (by kernel_rfl) (fun _ _ _ h=>h) (Or.inl ⟨by rfl,?_⟩) hHeld ?_ ?_
      rotate_left
      ·rintro w' ⟨s0,s1⟩
       go_simp
       with_reducible rfl
      rotate_left
      ·simp only [Act.put,sp__,i64_w,i32_w]
       rfl
      refine one_ (i:=5) (N:=some 39) #[true,true,true,true,true,true,false,false] rfl rfl (by kernel_rfl) (by decide) (fun K hK=>?_)
      refine value_ (w1:=?_) (v:=?_) (by rfl) rfl ?_ ?_
      rotate_left 2
      ·go_simp
       first|(refine ⟨?_,?_⟩ <;> rfl)|rfl
      refine hK.out _ _ ⟨pw_cell_below (below_alloc (Below.refl _ _) _) HS.out.1,pw_cell_below (below_alloc (Below.refl _ _) _) HS.out.2⟩ (fun hHeld=>?_)
      clear hK K
      refine norm_ (a':=?_) ?_ ?_
      rotate_left
      ·show Act.put _ (some 39) _=_
       simp only [Act.put,sp__,i64_w,i32_w]
       rfl
      refine one_ (i:=6) (N:=some 40) #[true,true,true,true,true,true,true,false] rfl rfl (by kernel_rfl) (by decide) (fun K hK=>?_)
      refine step_append_grows rfl (.tmp 37) (.tmp 39) 133 rfl 159 ip (.agg #[.int .i64 0,.int .i64 0]) 2 16 Tryz.underlying133 HI.out.1 HI.out.2.1 HI.out.2.2.1 HI.out.2.2.2 rfl (by decide) none 0 0 ((L.take 0).flatMap encPt) rfl ?aN ?aO ?aP ⟨w9.drew.heap.size,0,none⟩ 1 1 [.int .i64 p.f0,.int .i64 p.f1] rfl rfl ?aC ?aD (by omega) ?aE ?aF ?_
      (case aN=>exact fun _=>⟨rfl,rfl⟩)
      (case aO=>rw [flat_len encPt 2 (fun _=>rfl),HTK.out])
      (case aP=>exact fun b hb=>by cases hb)
      (case aC=>intro j u hu;have:=World.news_of_block (heap_alloc_new w9.drew (.cells #[.int .i64 p.f0,.int .i64 p.f1] 159)) j u hu;exact this)
      (case aD=>intro u hu;simp at hu;rcases hu with rfl|rfl <;> rfl)
      (case aE=>unfold maxLen;omega)
      (case aF=>omega)
      intro v6 w6 ho hg
      have HO6:=hid ho
      have HG6:=Aside0.mk (show Below w9.drew.heap.size w9.drew w6 from pw_below_grown (below_alloc (Below.refl w9.drew.heap.size w9.drew) (.cells #[.int .i64 p.f0,.int .i64 p.f1] 159)) none (by simp) hg (fun _ h=>by cases h))
      clear ho hg
      refine hK.out _ _ ⟨pw_cell_below HG6.out HS.out.1,pw_cell_below HG6.out HS.out.2⟩ (fun hHeld=>?_)
      clear hK K
      refine norm_ (a':=?_) ?_ ?_
      rotate_left
      ·show Act.put _ (some 40) _=_
       simp only [Act.put,sp__,i64_w,i32_w]
       rfl
      refine pure_ (i:=7) (N:=some 3) (v:=?_) (a':=?_) #[true,true,true,true,true,true,true,true] rfl rfl (by kernel_rfl) (fun _ _ _ h=>h) (Or.inl ⟨by rfl,?_⟩) ?_ ?_
      rotate_left
      ·intro w'
       go_simp
       with_reducible rfl
      rotate_left
      ·simp only [Act.put,sp__,i64_w,i32_w]
       rfl
      refine done_ (by kernel_rfl) ?_
      go_wp2_with (fail)
      have HR6:=Aside0.mk (show Kd.R k159 159 w6 B (fun _=>True) v6 (outS q0 q1 q2 q3 (k+1)) by
       have h:L.take (inS k)++[p]=outS q0 q1 q2 q3 (k+1):=by rw [HL.out,HP.out];exact outS_next q0 q1 q2 q3 k HLT.out
       rw [← HMI.out] at h
       rw [← h]
       refine R_grown_pts (own_weaken (base:=(w9.drew.alloc (.cells #[.int .i64 p.f0,.int .i64 p.f1] 159)).heap.size) ?_ (by have:=HBZ.out;simp;omega))
       have ho:=HO6.out
       rw [show (L.take 0++[p]).length=0+1 by rw [List.length_append,HTK.out];rfl,List.flatMap_append]
       exact ho)
      have HB6:=Aside0.mk (show Below B w w6 from below_then HBA.out HBW.out (HBI.out.drew.trans (HG6.out.mono HBI.out.size)))
      go_roundg (4-(k+1))
      case rel=>exact ⟨k+1,by go_num,by have:=HLT.out;omega,HR6,HB6⟩
      case measure=>have:=HLT.out;omega
     ·subst hA
      go_wp2_with (fail)
      have hmle:m≤L.length:=by have:=HMI.out;have:=HLN.out.2.1;have:=HM0.out;omega
      have hm2' : m≤2:=by have:=HLN.out.1;omega
      have hmc:m≤c:=by have:=HM0.out;omega
      have hmc2:(m:Int)≤(c:Int):=by omega
      have HTK:=hid (show (L.take m).length=m by rw [List.length_take];omega)
      have HCT:=Aside0.mk (Kd.C_below (Kd.C_below HCA.out HBI.out.drew) (below_alloc (Below.refl w9.drew.heap.size w9.drew) (.cells #[.int .i64 p.f0,.int .i64 p.f1] 159)))
      have HBZ:=hid (show B≤w9.heap.size by have:=HBI.out.size;have:=HBW.out;omega)
      have HPL:=hid (show pb<w9.heap.size by have:=HBI.out.size;have:=HPB.out;omega)
      have HS:=hid (show w9.drew.cell? ⟨pb,0,none⟩=some (.int .i64 p.f0)∧w9.drew.cell? ⟨pb,1,none⟩=some (.int .i64 p.f1) from ⟨pw_cell_below HBI.out HX.out.1,pw_cell_below HBI.out HX.out.2⟩)
      obtain ⟨ip,hip,hzz⟩:=Option.map_eq_some_iff.1 info159
      simp only [Prod.mk.injEq] at hzz
      obtain ⟨hiz,his,hib⟩:=hzz
      have HI:=hid (And.intro hip (And.intro hiz (And.intro his hib)))
      clear hip hiz his hib
      refine start_ (n:=8) (S:=fun w'=>w'.cell? ⟨pb,0,none⟩=some (.int .i64 p.f0)∧w'.cell? ⟨pb,1,none⟩=some (.int .i64 p.f1)) (ds:=[]) #[false,false,false,false,false,false,false,false] (by kernel_rfl) rfl rfl HS.out (fun hHeld=>?_)
      refine pure_ (i:=0) (N:=some 34) (v:=?_) (a':=?_) #[true,false,false,false,false,false,false,false] rfl rfl (by kernel_rfl) (fun _ _ _ h=>h) (Or.inl ⟨by rfl,?_⟩) ?_ ?_
      rotate_left
      ·intro w'
       go_simp
       with_reducible rfl
      rotate_left
      ·simp only [Act.put,sp__,i64_w,i32_w]
       rfl
      refine pure_ (i:=1) (N:=some 35) (v:=?_) (a':=?_) #[true,true,false,false,false,false,false,false] rfl rfl (by kernel_rfl) (fun _ _ _ h=>h) (Or.inl ⟨by rfl,?_⟩) ?_ ?_
      rotate_left
      ·intro w'
       go_simp
       with_reducible rfl
      rotate_left
      ·simp only [Act.put,sp__,i64_w,i32_w]
       rfl
      refine pure_ (i:=2) (N:=some 36) (v:=?_) (a':=?_) #[true,true,true,false,false,false,false,false] rfl rfl (by kernel_rfl) (fun _ _ _ h=>h) (Or.inl ⟨by rfl,?_⟩) ?_ ?_
      rotate_left
      ·intro w'
       go_simp
       with_reducible rfl
      rotate_left
      ·simp only [Act.put,sp__,i64_w,i32_w]
       rfl
      refine pure_ (i:=3) (N:=some 37) (v:=?_) (a':=?_) #[true,true,true,true,false,false,false,false] rfl rfl (by kernel_rfl) (fun _ _ _ h=>h) (Or.inl ⟨by rfl,?_⟩) ?_ ?_
      rotate_left
      ·intro w'
       go_simp
       with_reducible rfl
      rotate_left
      ·simp only [Act.put,sp__,i64_w,i32_w]
       rfl
      refine take_ (i:=4) (N:=some 38) (v:=?_) (a':=?_) #[true,true,true,true,true,false,false,false] rfl rfl (by kernel_rfl) (fun _ _ _ h=>h) (Or.inl ⟨by rfl,?_⟩) hHeld ?_ ?_
      rotate_left
      ·rintro w' ⟨s0,s1⟩
       go_simp
       with_reducible rfl
      rotate_left
      ·simp only [Act.put,sp__,i64_w,i32_w]
       rfl
      refine one_ (i:=5) (N:=some 39) #[true,true,true,true,true,true,false,false] rfl rfl (by kernel_rfl) (by decide) (fun K hK=>?_)
      refine value_ (w1:=?_) (v:=?_) (by rfl) rfl ?_ ?_
      rotate_left 2
      ·go_simp
       first|(refine ⟨?_,?_⟩ <;> rfl)|rfl
      refine hK.out _ _ ⟨pw_cell_below (below_alloc (Below.refl _ _) _) HS.out.1,pw_cell_below (below_alloc (Below.refl _ _) _) HS.out.2⟩ (fun hHeld=>?_)
      clear hK K
      refine norm_ (a':=?_) ?_ ?_
      rotate_left
      ·show Act.put _ (some 39) _=_
       simp only [Act.put,sp__,i64_w,i32_w]
       rfl
      refine one_ (i:=6) (N:=some 40) #[true,true,true,true,true,true,true,false] rfl rfl (by kernel_rfl) (by decide) (fun K hK=>?_)
      refine step_append_grows rfl (.tmp 37) (.tmp 39) 133 rfl 159 ip (.agg #[.int .i64 0,.int .i64 0]) 2 16 Tryz.underlying133 HI.out.1 HI.out.2.1 HI.out.2.2.1 HI.out.2.2.2 rfl (by decide) (some ⟨gl,0,none⟩) m m ((L.take m).flatMap encPt) rfl ?aN ?aO ?aP ⟨w9.drew.heap.size,0,none⟩ 1 1 [.int .i64 p.f0,.int .i64 p.f1] rfl rfl ?aC ?aD (by omega) ?aE ?aF ?_
      (case aN=>exact fun h=>by cases h)
      (case aO=>rw [flat_len encPt 2 (fun _=>rfl),HTK.out])
      (case aP=>exact fun b hb j u hu=>by cases hb;exact flat_cells HCT.out HM0.out j u (flat_take L _ j u hu))
      (case aC=>intro j u hu;have:=World.news_of_block (heap_alloc_new w9.drew (.cells #[.int .i64 p.f0,.int .i64 p.f1] 159)) j u hu;exact this)
      (case aD=>intro u hu;simp at hu;rcases hu with rfl|rfl <;> rfl)
      (case aE=>unfold maxLen;omega)
      (case aF=>omega)
      intro v6 w6 ho hg
      have HO6:=hid ho
      have HG6:=Aside0.mk (show Below w9.drew.heap.size w9.drew w6 from pw_below_grown (below_alloc (Below.refl w9.drew.heap.size w9.drew) (.cells #[.int .i64 p.f0,.int .i64 p.f1] 159)) none (by simp) hg (fun _ h=>by cases h))
      clear ho hg
      refine hK.out _ _ ⟨pw_cell_below HG6.out HS.out.1,pw_cell_below HG6.out HS.out.2⟩ (fun hHeld=>?_)
      clear hK K
      refine norm_ (a':=?_) ?_ ?_
      rotate_left
      ·show Act.put _ (some 40) _=_
       simp only [Act.put,sp__,i64_w,i32_w]
       rfl
      refine pure_ (i:=7) (N:=some 3) (v:=?_) (a':=?_) #[true,true,true,true,true,true,true,true] rfl rfl (by kernel_rfl) (fun _ _ _ h=>h) (Or.inl ⟨by rfl,?_⟩) ?_ ?_
      rotate_left
      ·intro w'
       go_simp
       with_reducible rfl
      rotate_left
      ·simp only [Act.put,sp__,i64_w,i32_w]
       rfl
      refine done_ (by kernel_rfl) ?_
      go_wp2_with (fail)
      have HR6:=Aside0.mk (show Kd.R k159 159 w6 B (fun _=>True) v6 (outS q0 q1 q2 q3 (k+1)) by
       have h:L.take (inS k)++[p]=outS q0 q1 q2 q3 (k+1):=by rw [HL.out,HP.out];exact outS_next q0 q1 q2 q3 k HLT.out
       rw [← HMI.out] at h
       rw [← h]
       refine R_grown_pts (own_weaken (base:=(w9.drew.alloc (.cells #[.int .i64 p.f0,.int .i64 p.f1] 159)).heap.size) ?_ (by have:=HBZ.out;simp;omega))
       have ho:=HO6.out
       rw [show (L.take m++[p]).length=m+1 by rw [List.length_append,HTK.out];rfl,List.flatMap_append]
       exact ho)
      have HB6:=Aside0.mk (show Below B w w6 from below_then HBA.out HBW.out (HBI.out.drew.trans (HG6.out.mono HBI.out.size)))
      go_roundg (4-(k+1))
      case rel=>exact ⟨k+1,by go_num,by have:=HLT.out;omega,HR6,HB6⟩
      case measure=>have:=HLT.out;omega
  ·have hk4:k=4:=by omega
   subst hk4
   have d1:decide (((4:Nat):Int)<4)=false:=by decide
   go_wp2_with (fail)
   go_ret
   exact ⟨_,rfl,HR.out,HB.out⟩
end Go.Proofs.YtiioklboaookiaaGreatDoor.Q
namespace Go.Proofs.YtiioklboaookiaaGreatDoor.Q
open Go.RowKit Go.Proofs.YtiioklboaookiaaGreatDoorW.PrintWords Go.Proofs.YtiioklboaookiaaGreatDoorW.PrintLast Go.Proofs.YtiioklboaookiaaGreatDoor.Hand Go.Proofs.YtiioklboaookiaaGreatDoorW.PrintMore
attribute [local go_sem] max2_int min2_int max_two min_two max_three min_three max_four min_four
set_option linter.unusedVariables false
set_option linter.unusedSimpArgs false
theorem mul_bd (u v:Int) (h1 : -8192≤u) (h2:u≤8192) (h3 : -8192≤v) (h4:v≤8192) : -67108864≤u*v∧u*v≤67108864:=by
 have h:(u*v).natAbs≤8192*8192:=by rw [Int.natAbs_mul];exact Nat.mul_le_mul (by omega) (by omega)
 omega
theorem w64_big {x:Int} (h1 : -4611686018427387904≤x) (h2:x≤4611686018427387904):wrap64 x=x:=by unfold wrap64;omega
theorem compare_eq (a b:Int):cmp_Compare_int.f a b=some (cmpI a b):=by
 unfold cmp_Compare_int.f cmp_isNaN_int.f cmpI
 by_cases h:a<b
 ·simp [h]
 ·by_cases h2:b<a
  ·simp [h,h2]
  ·simp [h,h2]
theorem turn_eq {x0 x1 y0 y1 z0 z1:Int} (hx0 : -4096≤x0∧x0≤4096) (hx1 : -4096≤x1∧x1≤4096) (hy0 : -4096≤y0∧y0≤4096) (hy1 : -4096≤y1∧y1≤4096) (hz0 : -4096≤z0∧z0≤4096) (hz1 : -4096≤z1∧z1≤4096) :
  plane_turn.f x0 x1 y0 y1 z0 z1=some (cmpI ((y0-x0)*(z1-x1)-(y1-x1)*(z0-x0)) 0):=by
 have b1:=mul_bd (y0-x0) (z1-x1) (by omega) (by omega) (by omega) (by omega)
 have b2:=mul_bd (y1-x1) (z0-x0) (by omega) (by omega) (by omega) (by omega)
 have e1:wrap64 (y0-x0)=y0-x0:=w64_big (by omega) (by omega)
 have e2:wrap64 (z1-x1)=z1-x1:=w64_big (by omega) (by omega)
 have e3:wrap64 (y1-x1)=y1-x1:=w64_big (by omega) (by omega)
 have e4:wrap64 (z0-x0)=z0-x0:=w64_big (by omega) (by omega)
 have e5:wrap64 ((y0-x0)*(z1-x1))=(y0-x0)*(z1-x1):=w64_big (by omega) (by omega)
 have e6:wrap64 ((y1-x1)*(z0-x0))=(y1-x1)*(z0-x0):=w64_big (by omega) (by omega)
 have e7:wrap64 ((y0-x0)*(z1-x1)-(y1-x1)*(z0-x0))=(y0-x0)*(z1-x1)-(y1-x1)*(z0-x0):=w64_big (by omega) (by omega)
 unfold plane_turn.f plane_cross.f
 rw [e1,e2,e3,e4,e5,e6,e7,Option.bind_some,compare_eq,Option.bind_some]
theorem cmpI_neg {a:Int} (h:a<0):cmpI a 0 = -1:=by unfold cmpI;rw [if_pos h]
theorem cmpI_pos {a:Int} (h:0<a):cmpI a 0=1:=by unfold cmpI;rw [if_neg (by omega),if_pos h]
def RectOk (a b c d:Int):Prop:=-4096≤a∧a<c∧c≤4096∧-4096≤b∧b<d∧d≤4096
abbrev rect (a b c d:Int):List Pt:=[⟨a,b⟩,⟨c,b⟩,⟨c,d⟩,⟨a,d⟩]
theorem rect_turns {a b c d:Int} (h:RectOk a b c d):plane_turn.f a b a d c b=some (-1)∧plane_turn.f a b c b c d=some 1∧plane_turn.f c d c b a d=some (-1)∧plane_turn.f c d a d a b=some 1:=by
 obtain ⟨h1,h2,h3,h4,h5,h6⟩:=h
 have hp:0<(c-a)*(d-b):=Int.mul_pos (by omega) (by omega)
 refine ⟨?_,?_,?_,?_⟩
 ·rw [turn_eq (by omega) (by omega) (by omega) (by omega) (by omega) (by omega)]
  rw [show (a-a)*(b-b)-(d-b)*(c-a) = -((c-a)*(d-b)) by rw [Int.sub_self,Int.zero_mul,Int.mul_comm];omega,cmpI_neg (by omega)]
 ·rw [turn_eq (by omega) (by omega) (by omega) (by omega) (by omega) (by omega)]
  rw [show (c-a)*(d-b)-(b-b)*(c-a)=(c-a)*(d-b) by rw [Int.sub_self b,Int.zero_mul];omega,cmpI_pos hp]
 ·rw [turn_eq (by omega) (by omega) (by omega) (by omega) (by omega) (by omega)]
  rw [show (c-c)*(d-d)-(b-d)*(a-c) = -((c-a)*(d-b)) by
   rw [Int.sub_self,Int.zero_mul,show b-d = -(d-b) by omega,show a-c = -(c-a) by omega,Int.neg_mul_neg,Int.mul_comm];omega,cmpI_neg (by omega)]
 ·rw [turn_eq (by omega) (by omega) (by omega) (by omega) (by omega) (by omega)]
  rw [show (a-c)*(b-d)-(d-d)*(a-c)=(c-a)*(d-b) by
   rw [Int.sub_self d,Int.zero_mul,show b-d = -(d-b) by omega,show a-c = -(c-a) by omega,Int.neg_mul_neg];omega,cmpI_pos hp]
theorem R_own {e:Nat} {w:World} {base:Nat} {v:Value} {L:List Pt} {ok:Nat→Prop} (h:Kd.R k159 e w base ok v L) (n:Nat) (hn:L.length=n+1):∃ g c,v=.slice (some ⟨g,0,none⟩) (n+1) c∧g<w.heap.size∧base≤g∧n+1≤c:=by
 obtain ⟨_,inner,ho,_⟩:=h
 rcases ho.2 with ⟨hv,hz⟩ | ⟨g,cap,cur,hv,hbg,hh,hnc,_⟩
 ·omega
 ·rw [hn] at hv hnc
  exact ⟨g,cap,hv,lt_of_some hh,hbg,hnc⟩
set_option maxHeartbeats 8000000 in
set_option maxRecDepth 100000 in
theorem corners_walk (a b c d:Int) (hr:RectOk a b c d) (g0 cap0:Nat) (w:World) (hc:4≤cap0) (h:Kd.C k159 w (some ⟨g0,0,none⟩) 4 (rect a b c d)) :
  Calls Tryz.prog 82 #[.slice (some ⟨g0,0,none⟩) 4 cap0] w fun e w'=>∃ v,e=.returned v∧Kd.R k159 159 w' w.heap.size (fun _=>True) v (rect a b c d)∧Below w.heap.size w w':=by
 obtain ⟨t1,t2,t3,t4⟩:=rect_turns hr
 have HT1:=hid t1
 have HT2:=hid t2
 have HT3:=hid t3
 have HT4:=hid t4
 have HRO:=hid hr
 have HCL:=hid (clonePt_walk (rect a b c d) g0 cap0 w (by simp) hc h)
 obtain ⟨B,hB⟩:∃ B,B=w.heap.size:=⟨_,rfl⟩
 rw [← hB] at HCL ⊢
 have HBE:=hid hB
 clear t1 t2 t3 t4 hr h hB
 go_enter Tryz.func82,Tryz.ntmps82
 go_wp2_with (fail)
 refine HCL.out.mono ?_
 rintro e w1 ⟨v1,rfl,hr1,hb1⟩
 obtain ⟨g1,c1,rfl,hg1,hgb,hc1⟩:=R_own hr1 3 rfl
 have HB1:=Aside0.mk hb1
 have HGB:=hid hgb
 have HRO':=HRO.out
 have HSO:=hid (psort_walk a b c d HRO.out.2.1 HRO.out.2.2.2.2.1 g1 c1 B w1 hr1)
 clear hr1 hb1 hg1 hgb HRO' HCL
 go_wp2_with (fail)
 refine HSO.out.mono ?_
 rintro e w2 ⟨rfl,hr2,hg2⟩
 have HR2:=Aside0.mk hr2
 have HB2:=Aside0.mk (pw_below_grown HB1.out (some g1) (by rw [HBE.out];have:=HB1.out.size;exact this) hg2 (fun k hk=>by cases hk;exact HGB.out))
 have HCO:=hid (compactPt_walk [⟨a,b⟩,⟨a,d⟩,⟨c,b⟩,⟨c,d⟩] g1 c1 w2 (by simp) (by simp) (by
  obtain ⟨A',c',he,_,hC⟩:=Kd.R_reads hr2
  cases he;exact hC) (by
  intro q k hk hlt
  have hlt' : k<4:=hlt
  obtain ⟨h1,h2,h3,h4,h5,h6⟩:=HRO.out
  have:q=0∨q=1∨q=2:=by omega
  rcases this with rfl|rfl|rfl <;> subst hk <;> rintro ⟨e1,e2⟩
  ·have e2' : d=b:=e2
   omega
  ·have e1' : c=a:=e1
   omega
  ·have e2' : d=b:=e2
   omega))
 clear hr2 hg2 HSO
 go_wp2_with (fail)
 refine HCO.out.mono ?_
 rintro e w3 ⟨rfl,hb3⟩
 have HR3:=Aside0.mk (Kd.R_below HR2.out hb3)
 have HB3:=Aside0.mk (HB2.out.trans (hb3.mono (by rw [HBE.out];exact HB2.out.size)))
 have HCH:=hid (chain_walk ⟨a,b⟩ ⟨a,d⟩ ⟨c,b⟩ ⟨c,d⟩ g1 c1 w3 (by
  obtain ⟨A',c',he,_,hC⟩:=Kd.R_reads HR3.out
  cases he;exact hC) HT1.out HT2.out)
 clear hb3 HCO HR2
 go_wp2_with (fail)
 refine HCH.out.mono ?_
 rintro e w4 ⟨v4,rfl,hr4,hb4⟩
 have HB4:=Aside0.mk (HB3.out.trans (hb4.mono (by rw [HBE.out];exact HB3.out.size)))
 have HR4:=Aside0.mk (Kd.R_bound hr4)
 have HG1:=hid (show g1<w3.heap.size from by
  obtain ⟨cells,hc⟩:=Kd.R_typed HR3.out g1 rfl
  exact lt_of_some hc)
 have HRV:=hid (reverseP_walk ⟨a,b⟩ ⟨a,d⟩ ⟨c,b⟩ ⟨c,d⟩ g1 c1 B w4 (Kd.R_below HR3.out hb4))
 clear hr4 hb4 HCH
 go_wp2_with (fail)
 refine HRV.out.mono ?_
 rintro e w5 ⟨rfl,hr5,hg5⟩
 have HR5:=Aside0.mk hr5
 have HB5:=Aside0.mk (pw_below_grown HB4.out (some g1) (by rw [HBE.out];exact HB4.out.size) hg5 (fun k hk=>by cases hk;exact HGB.out))
 have HV5:=Aside0.mk (Kd.R_grown HR4.out hg5 (fun k hk e=>by cases e;have:=hk.2.1;have:=HG1.out;omega))
 have HCH:=hid (chain_walk ⟨c,d⟩ ⟨c,b⟩ ⟨a,d⟩ ⟨a,b⟩ g1 c1 w5 (by
  obtain ⟨A',c',he,_,hC⟩:=Kd.R_reads hr5
  cases he;exact hC) HT3.out HT4.out)
 clear hr5 hg5 HRV HR4
 go_wp2_with (fail)
 refine HCH.out.mono ?_
 rintro e w6 ⟨v6,rfl,hr6,hb6⟩
 have HB6:=Aside0.mk (HB5.out.trans (hb6.mono (by rw [HBE.out];exact HB5.out.size)))
 have h4:=Kd.R_mono (ok':=fun _=>True) (Kd.R_below HV5.out hb6) (fun _ _=>trivial)
 obtain ⟨g4,c4,rfl,hg4,hgb4,hc4⟩:=R_own h4 2 rfl
 obtain ⟨g6,c6,rfl,hg6,hgb6,hc6⟩:=R_own hr6 2 rfl
 have HU:=Aside0.mk (Kd.R_lower (Kd.R_take h4 (m:=2) (by simp)) (base':=B) (by rw [HBE.out];exact HB3.out.size))
 have HV:=Aside0.mk (show Kd.C k159 w6 (some ⟨g6,0,none⟩) 2 [⟨c,d⟩,⟨a,d⟩] by
  obtain ⟨A',c',he,_,hC⟩:=Kd.R_reads (Kd.R_take hr6 (m:=2) (by simp))
  cases he;exact hC)
 have hc4' : (2:Int)≤(c4:Int):=by omega
 have hc6' : (2:Int)≤(c6:Int):=by omega
 have w2:wrap64 2=2:=w64_in _ (by omega) (by omega)
 clear hr6 hb6 HCH h4 HV5 hg4 hgb4 hg6 hgb6 HR3 HR5
 go_wp2_with (fail)
 refine start_ (n:=12) (S:=fun w'=>True∧True) (ds:=[]) #[false,false,false,false,false,false,false,false,false,false,false,false] (by kernel_rfl) rfl rfl ⟨trivial,trivial⟩ (fun hHeld=>?_)
 refine pure_ (i:=0) (N:=some 22) (v:=?_) (a':=?_) #[true,false,false,false,false,false,false,false,false,false,false,false] rfl rfl (by kernel_rfl) (fun _ _ _ h=>h) (Or.inl ⟨by rfl,?_⟩) ?_ ?_
 rotate_left
 ·intro w'
  go_simp
  with_reducible rfl
 rotate_left
 ·simp only [Act.put,sp__,i64_w,i32_w]
  rfl
 refine pure_ (i:=1) (N:=some 23) (v:=?_) (a':=?_) #[true,true,false,false,false,false,false,false,false,false,false,false] rfl rfl (by kernel_rfl) (fun _ _ _ h=>h) (Or.inl ⟨by rfl,?_⟩) ?_ ?_
 rotate_left
 ·intro w'
  go_simp
  with_reducible rfl
 rotate_left
 ·simp only [Act.put,sp__,i64_w,i32_w]
  rfl
 refine pure_ (i:=2) (N:=some 24) (v:=?_) (a':=?_) #[true,true,true,false,false,false,false,false,false,false,false,false] rfl rfl (by kernel_rfl) (fun _ _ _ h=>h) (Or.inl ⟨by rfl,?_⟩) ?_ ?_
 rotate_left
 ·intro w'
  go_simp
  with_reducible rfl
 rotate_left
 ·simp only [Act.put,sp__,i64_w,i32_w]
  rfl
 refine pure_ (i:=3) (N:=some 25) (v:=?_) (a':=?_) #[true,true,true,true,false,false,false,false,false,false,false,false] rfl rfl (by kernel_rfl) (fun _ _ _ h=>h) (Or.inl ⟨by rfl,?_⟩) ?_ ?_
 rotate_left
 ·intro w'
  go_simp
  with_reducible rfl
 rotate_left
 ·simp only [Act.put,sp__,i64_w,i32_w]
  rfl
 refine pure_ (i:=4) (N:=some 26) (v:=?_) (a':=?_) #[true,true,true,true,true,false,false,false,false,false,false,false] rfl rfl (by kernel_rfl) (fun _ _ _ h=>h) (Or.inl ⟨by rfl,?_⟩) ?_ ?_
 rotate_left
 ·intro w'
  go_simp
  with_reducible rfl
 rotate_left
 ·simp only [Act.put,sp__,i64_w,i32_w]
  rfl
 refine pure_ (i:=5) (N:=some 27) (v:=?_) (a':=?_) #[true,true,true,true,true,true,false,false,false,false,false,false] rfl rfl (by kernel_rfl) (fun _ _ _ h=>h) (Or.inl ⟨by rfl,?_⟩) ?_ ?_
 rotate_left
 ·intro w'
  go_simp
  with_reducible rfl
 rotate_left
 ·simp only [Act.put,sp__,i64_w,i32_w]
  rfl
 refine pure_ (i:=6) (N:=some 28) (v:=?_) (a':=?_) #[true,true,true,true,true,true,true,false,false,false,false,false] rfl rfl (by kernel_rfl) (fun _ _ _ h=>h) (Or.inl ⟨by rfl,?_⟩) ?_ ?_
 rotate_left
 ·intro w'
  go_simp
  with_reducible rfl
 rotate_left
 ·simp only [Act.put,sp__,i64_w,i32_w]
  rfl
 refine pure_ (i:=7) (N:=some 29) (v:=?_) (a':=?_) #[true,true,true,true,true,true,true,true,false,false,false,false] rfl rfl (by kernel_rfl) (fun _ _ _ h=>h) (Or.inl ⟨by rfl,?_⟩) ?_ ?_
 rotate_left
 ·intro w'
  go_simp
  with_reducible rfl
 rotate_left
 ·simp only [Act.put,sp__,i64_w,i32_w]
  rfl
 refine pure_ (i:=8) (N:=some 30) (v:=?_) (a':=?_) #[true,true,true,true,true,true,true,true,true,false,false,false] rfl rfl (by kernel_rfl) (fun _ _ _ h=>h) (Or.inl ⟨by rfl,?_⟩) ?_ ?_
 rotate_left
 ·intro w'
  go_simp
  with_reducible rfl
 rotate_left
 ·simp only [Act.put,sp__,i64_w,i32_w]
  rfl
 refine pure_ (i:=9) (N:=some 31) (v:=?_) (a':=?_) #[true,true,true,true,true,true,true,true,true,true,false,false] rfl rfl (by kernel_rfl) (fun _ _ _ h=>h) (Or.inl ⟨by rfl,?_⟩) ?_ ?_
 rotate_left
 ·intro w'
  go_simp
  with_reducible rfl
 rotate_left
 ·simp only [Act.put,sp__,i64_w,i32_w]
  rfl
 refine one_ (i:=10) (N:=some 32) #[true,true,true,true,true,true,true,true,true,true,true,false] rfl rfl (by kernel_rfl) (by decide) (fun K hK=>?_)
 refine Kd.R_append_rows_step k159 (Rr:=k159.K w6.drew) (w0:=w) B (by rfl) (.tmp 26) (.tmp 31) 133 159 (.agg #[.int .i64 0,.int .i64 0]) 16 rfl Tryz.underlying133 info159 rfl (by decide) (by omega) (.slice (some ⟨g4,0,none⟩) 2 c4) [⟨a,b⟩,⟨c,b⟩] [⟨c,d⟩,⟨a,d⟩] (some ⟨g6,0,none⟩) 2 c6 (fun _=>True) (fun _=>False) rfl rfl (Kd.R_drew HU.out) (Kd.C_drew HV.out) (fun x cs hk=>by rw [k159_open hk];exact k159_mkM _ _ _ x) (fun _ hk=>hk.elim) (fun _ _=>trivial) HB6.out.drew ?aS ?aL ?_
 (case aS=>rw [HBE.out];exact HB6.out.size)
 (case aL=>simp)
 intro v7 w7 ho hb hg hat
 have HO7:=Aside0.mk ho
 have HB7:=Aside0.mk hb
 clear ho hb hg hat
 refine hK.out _ _ ⟨trivial,trivial⟩ (fun hHeld=>?_)
 clear hK K
 refine norm_ (a':=?_) ?_ ?_
 rotate_left
 ·show Act.put _ (some 32) _=_
  simp only [Act.put,sp__,i64_w,i32_w]
  rfl
 refine pure_ (i:=11) (N:=some 2) (v:=?_) (a':=?_) #[true,true,true,true,true,true,true,true,true,true,true,true] rfl rfl (by kernel_rfl) (fun _ _ _ h=>h) (Or.inl ⟨by rfl,?_⟩) ?_ ?_
 rotate_left
 ·intro w'
  go_simp
  with_reducible rfl
 rotate_left
 ·simp only [Act.put,sp__,i64_w,i32_w]
  rfl
 refine done_ (by kernel_rfl) ?_
 go_wp2_with (fail)
 go_ret
 exact ⟨_,rfl,HO7.out,HB7.out⟩
end Go.Proofs.YtiioklboaookiaaGreatDoor.Q
namespace Go.Proofs.YtiioklboaookiaaGreatDoor.Q
open Go.RowKit Go.Proofs.YtiioklboaookiaaGreatDoorW.PrintWords Go.Proofs.YtiioklboaookiaaGreatDoorW.PrintLast Go.Proofs.YtiioklboaookiaaGreatDoor.Hand Go.Proofs.YtiioklboaookiaaGreatDoorW.PrintMore
attribute [local go_sem] max2_int min2_int max_two min_two max_three min_three max_four min_four
set_option linter.unusedVariables false
set_option linter.unusedSimpArgs false
def valP (u v:Int) (p:Pt):Int:=u*p.f0+v*p.f1
def ptIn (p:Pt):Prop:=-4096≤p.f0∧p.f0≤4096∧-4096≤p.f1∧p.f1≤4096
def dirIn (u v:Int):Prop:=-65536≤u∧u≤65536∧-65536≤v∧v≤65536
theorem mul_bd2 (u v:Int) (h1 : -65536≤u) (h2:u≤65536) (h3 : -4096≤v) (h4:v≤4096) : -268435456≤u*v∧u*v≤268435456:=by
 have h:(u*v).natAbs≤65536*4096:=by rw [Int.natAbs_mul];exact Nat.mul_le_mul (by omega) (by omega)
 omega
theorem valP_bd {u v:Int} {p:Pt} (hd:dirIn u v) (hp:ptIn p) : -536870912≤valP u v p∧valP u v p≤536870912:=by
 obtain ⟨a1,a2,a3,a4⟩:=hd
 obtain ⟨b1,b2,b3,b4⟩:=hp
 have h1:=mul_bd2 u p.f0 a1 a2 b1 b2
 have h2:=mul_bd2 v p.f1 a3 a4 b3 b4
 unfold valP;omega
theorem value_eq {u v:Int} {p:Pt} (hd:dirIn u v) (hp:ptIn p):plane_value.f u v p.f0 p.f1=some (valP u v p):=by
 obtain ⟨a1,a2,a3,a4⟩:=hd
 obtain ⟨b1,b2,b3,b4⟩:=hp
 have h1:=mul_bd2 u p.f0 a1 a2 b1 b2
 have h2:=mul_bd2 v p.f1 a3 a4 b3 b4
 unfold plane_value.f valP
 rw [w64_big (x:=u*p.f0) (by omega) (by omega),w64_big (x:=v*p.f1) (by omega) (by omega),w64_big (by omega) (by omega)]
theorem rdP {l:List Pt} {i:Nat} (h:i<l.length):rd_T159 l (i:Int)=l[i]:=by
 unfold rd_T159;rw [Int.toNat_natCast,List.getD_eq_getElem?_getD,List.getElem?_eq_getElem h];rfl
theorem extremes_l0 {u v:Int} (hd:dirIn u v) (l:List Pt) (hl:l.length≤512) (hp:∀ p,p ∈ l→ptIn p):∀ (j i:Nat) (lo hi:Int),i+j=l.length→(∃ p,p ∈ l∧lo=valP u v p)→(∃ p,p ∈ l∧hi=valP u v p)→(∀ q,q<i→∀ h:q<l.length,lo≤valP u v l[q]∧valP u v l[q]≤hi) →
  ∃ lo' hi',plane_extremes.l0 (j+1) u v lo hi l (l.length:Int) (i:Int)=some (lo',hi')∧(∀ p,p ∈ l→lo'≤valP u v p∧valP u v p≤hi')∧(∃ p,p ∈ l∧lo' = valP u v p)∧(∃ p,p ∈ l∧hi' = valP u v p)
 | 0,i,lo,hi,h1,h2,h3,h4=>⟨lo,hi,by rw [plane_extremes.l0,if_neg (by omega)],fun p hp=>by
   obtain ⟨q,hq,rfl⟩:=List.mem_iff_getElem.1 hp
   exact h4 q (by omega) hq,h2,h3⟩
 | j+1,i,lo,hi,h1,h2,h3,h4=>by
  have hi' : i<l.length:=by omega
  have hm:l[i] ∈ l:=List.getElem_mem hi'
  have hv:=value_eq hd (hp _ hm)
  obtain ⟨lo',hi2,e,r⟩:=extremes_l0 hd l hl hp j (i+1) (mn lo (valP u v l[i])) (mx hi (valP u v l[i])) (by omega) (by
   unfold mn;split
   ·first|exact ⟨_,hm,rfl⟩|exact h2
   ·first|exact ⟨_,hm,rfl⟩|exact h2) (by
   unfold mx;split
   ·first|exact ⟨_,hm,rfl⟩|exact h3
   ·first|exact ⟨_,hm,rfl⟩|exact h3) (fun q hq hql=>by
   have hmn:mn lo (valP u v l[i])≤lo∧mn lo (valP u v l[i])≤valP u v l[i]:=by unfold mn;split <;> omega
   have hmx:hi≤mx hi (valP u v l[i])∧valP u v l[i]≤mx hi (valP u v l[i]):=by unfold mx;split <;> omega
   by_cases e:q=i
   ·subst e;omega
   ·have:=h4 q (by omega) hql;omega)
  refine ⟨lo',hi2,?_,r⟩
  rw [plane_extremes.l0,if_pos (by omega),if_pos (by omega),if_pos (by omega),rdP hi',hv,Option.bind_some,Option.bind_some]
  have w:wrap64 ((i:Int)+1)=((i+1:Nat):Int):=by rw [w64_in _ (by omega) (by omega)];omega
  rw [w];exact e
def ExOf (u v:Int) (l:List Pt) (lo hi:Int):Prop:=(∀ p,p ∈ l→lo≤valP u v p∧valP u v p≤hi)∧(∃ p,p ∈ l∧lo=valP u v p)∧(∃ p,p ∈ l∧hi=valP u v p)
theorem extremes_eq {u v:Int} (hd:dirIn u v) (l:List Pt) (h0:l.length=4) (hp:∀ p,p ∈ l→ptIn p):∃ lo hi,plane_extremes.f 5 u v l=some (lo,hi)∧ExOf u v l lo hi:=by
 have hm:l[0] ∈ l:=List.getElem_mem (by omega)
 have e0:rd_T159 l 0=l[0]:=rdP (i:=0) (by omega)
 obtain ⟨lo,hi,e,r⟩:=extremes_l0 hd l (by omega) hp 4 0 (valP u v l[0]) (valP u v l[0]) (by omega) ⟨_,hm,rfl⟩ ⟨_,hm,rfl⟩ (fun q hq=>by omega)
 refine ⟨lo,hi,?_,r⟩
 unfold plane_extremes.f
 rw [if_pos (by omega),e0,value_eq hd (hp _ hm),Option.bind_some]
 exact e
theorem line_eq {u v:Int} (hd:dirIn u v) (p q:List Pt) (h1:p.length=4) (h2:q.length=4) (hp:∀ x,x ∈ p→ptIn x) (hq:∀ x,x ∈ q→ptIn x) :
  ∃ hi lo,(∃ a,ExOf u v p a hi)∧(∃ b,ExOf u v q lo b)∧((hi<lo∧plane_line.f 5 u v p q=some (false,0,0,0,2*u,2*v,hi+lo,true))∨(lo≤hi∧plane_line.f 5 u v p q=some (false,0,0,0,0,0,0,false))):=by
 obtain ⟨a,hi,e1,r1⟩:=extremes_eq hd p h1 hp
 obtain ⟨lo,b,e2,r2⟩:=extremes_eq hd q h2 hq
 refine ⟨hi,lo,⟨a,r1⟩,⟨b,r2⟩,?_⟩
 obtain ⟨x,hx,ex⟩:=r1.2.2
 obtain ⟨y,hy,ey⟩:=r2.2.1
 have b1:=valP_bd hd (hp x hx)
 have b2:=valP_bd hd (hq y hy)
 unfold plane_line.f
 rw [e1,e2,Option.bind_some,Option.bind_some]
 obtain ⟨a1,a2,a3,a4⟩:=hd
 by_cases h:hi<lo
 ·refine .inl ⟨h,?_⟩
  rw [if_neg (show ¬ (hi ≥ lo) by omega),w64_big (by omega) (by omega),w64_big (by omega) (by omega),w64_big (by omega) (by omega)]
 ·exact .inr ⟨by omega,by rw [if_pos (show hi ≥ lo by omega)]⟩
def SepOk (U V W:Int) (p q:List Pt):Prop:=dirIn U V∧-1073741824≤W∧W≤1073741824∧(∀ x,x ∈ p→valP U V x<W)∧(∀ x,x ∈ q→W<valP U V x)
def dirIn1 (u v:Int):Prop:=-8192≤u∧u≤8192∧-8192≤v∧v≤8192
theorem dirIn1.in_ {u v:Int} (h:dirIn1 u v):dirIn u v:=by obtain ⟨a,b,c,d⟩:=h;exact ⟨by omega,by omega,by omega,by omega⟩
theorem valP_two (u v:Int) (p:Pt):valP (2*u) (2*v) p=2*valP u v p:=by
 unfold valP;rw [Int.mul_assoc,Int.mul_assoc,Int.mul_add]
theorem line_sep {u v:Int} (hd:dirIn1 u v) (p q:List Pt) (hp:∀ x,x ∈ p→ptIn x) (hq:∀ x,x ∈ q→ptIn x) {hi lo:Int} (h1:∃ a,ExOf u v p a hi) (h2:∃ b,ExOf u v q lo b) (h:hi<lo):SepOk (2*u) (2*v) (hi+lo) p q:=by
 obtain ⟨a,r1⟩:=h1
 obtain ⟨b,r2⟩:=h2
 obtain ⟨x,hx,ex⟩:=r1.2.2
 obtain ⟨y,hy,ey⟩:=r2.2.1
 have b1:=valP_bd hd.in_ (hp x hx)
 have b2:=valP_bd hd.in_ (hq y hy)
 refine ⟨by obtain ⟨a,b,c,d⟩:=hd;exact ⟨by omega,by omega,by omega,by omega⟩,by omega,by omega,fun z hz=>?_,fun z hz=>?_⟩
 ·have:=(r1.1 z hz).2
  rw [valP_two];omega
 ·have:=(r2.1 z hz).1
  rw [valP_two];omega
def GapOk (a b c d a' b' c' d' : Int):Prop:=c<a'∨c' < a∨d<b'∨d' < b
theorem gap_line {a b c d a' b' c' d' : Int} (hr:RectOk a b c d) (hr' : RectOk a' b' c' d') (hg:GapOk a b c d a' b' c' d') (x:Int) (hx:0<x) :
  ∃ u v,((u=x∧v=0)∨(u = -x∧v=0)∨(u=0∧v = -x)∨(u=0∧v=x))∧∀ hi lo,(∃ m,ExOf u v (rect a b c d) m hi)→(∃ m,ExOf u v (rect a' b' c' d') lo m)→hi<lo:=by
 obtain ⟨h1,h2,h3,h4,h5,h6⟩:=hr
 obtain ⟨k1,k2,k3,k4,k5,k6⟩:=hr'
 have key:∀ {s t:Int},s<t→x*s<x*t:=fun h=>Int.mul_lt_mul_of_pos_left h hx
 have key' : ∀ {s t:Int},s≤t→x*s≤x*t:=fun h=>Int.mul_le_mul_of_nonneg_left h (by omega)
 have mem:∀ {a b c d:Int} {z:Pt},z ∈ rect a b c d→(z.f0=a∨z.f0=c)∧(z.f1=b∨z.f1=d):=fun hz=>by
  simp [rect] at hz
  rcases hz with rfl|rfl|rfl|rfl <;> simp
 rcases hg with hg|hg|hg|hg
 ·refine ⟨x,0,.inl ⟨rfl,rfl⟩,fun hi lo ⟨_,e1⟩ ⟨_,e2⟩=>?_⟩
  obtain ⟨y,hy,ey⟩:=e1.2.2
  obtain ⟨z,hz,ez⟩:=e2.2.1
  have my:=(mem hy).1
  have mz:=(mem hz).1
  have hyz:y.f0<z.f0:=by omega
  have:=key hyz
  unfold valP at ey ez;omega
 ·refine ⟨-x,0,.inr (.inl ⟨rfl,rfl⟩),fun hi lo ⟨_,e1⟩ ⟨_,e2⟩=>?_⟩
  obtain ⟨y,hy,ey⟩:=e1.2.2
  obtain ⟨z,hz,ez⟩:=e2.2.1
  have my:=(mem hy).1
  have mz:=(mem hz).1
  have hyz:z.f0<y.f0:=by omega
  have:=key hyz
  unfold valP at ey ez;rw [Int.neg_mul] at ey ez;omega
 ·refine ⟨0,x,.inr (.inr (.inr ⟨rfl,rfl⟩)),fun hi lo ⟨_,e1⟩ ⟨_,e2⟩=>?_⟩
  obtain ⟨y,hy,ey⟩:=e1.2.2
  obtain ⟨z,hz,ez⟩:=e2.2.1
  have my:=(mem hy).2
  have mz:=(mem hz).2
  have hyz:y.f1<z.f1:=by omega
  have:=key hyz
  unfold valP at ey ez;omega
 ·refine ⟨0,-x,.inr (.inr (.inl ⟨rfl,rfl⟩)),fun hi lo ⟨_,e1⟩ ⟨_,e2⟩=>?_⟩
  obtain ⟨y,hy,ey⟩:=e1.2.2
  obtain ⟨z,hz,ez⟩:=e2.2.1
  have my:=(mem hy).2
  have mz:=(mem hz).2
  have hyz:z.f1<y.f1:=by omega
  have:=key hyz
  unfold valP at ey ez;rw [Int.neg_mul] at ey ez;omega
theorem rect_in {a b c d:Int} (hr:RectOk a b c d):∀ x,x ∈ rect a b c d→ptIn x:=by
 obtain ⟨h1,h2,h3,h4,h5,h6⟩:=hr
 intro x hx
 simp [rect] at hx
 rcases hx with rfl|rfl|rfl|rfl <;> (unfold ptIn;dsimp only;omega)
def four (x y:Int):List Pt:=[⟨x,y⟩,⟨-x,-y⟩,⟨y,-x⟩,⟨-y,x⟩]
def edgeD (l:List Pt) (i:Nat):Pt:=⟨(rd_T159 l (((i+1) % 4:Nat):Int)).f0-(rd_T159 l (i:Int)).f0,(rd_T159 l (((i+1) % 4:Nat):Int)).f1-(rd_T159 l (i:Int)).f1⟩
def fourE (l:List Pt) (n:Nat):List Pt:=(List.range n).flatMap fun i=>four (edgeD l i).f0 (edgeD l i).f1
theorem fourE_succ (l:List Pt) (n:Nat):fourE l (n+1)=fourE l n++four (edgeD l n).f0 (edgeD l n).f1:=by
 unfold fourE;rw [List.range_succ,List.flatMap_append];simp
theorem fourE_len (l:List Pt) (n:Nat):(fourE l n).length=n*4:=by
 induction n with
 | zero=>rfl
 | succ n ih=>rw [fourE_succ,List.length_append,ih,Nat.succ_mul];rfl
def dirsF (p q:List Pt):List Pt:=[⟨(rd_T159 q 0).f0-(rd_T159 p 0).f0,(rd_T159 q 0).f1-(rd_T159 p 0).f1⟩]++fourE p 4++fourE q 4
theorem edgeD_in {l:List Pt} (h4:l.length=4) (hp:∀ x,x ∈ l→ptIn x) (i:Nat) (hi:i<4):dirIn1 (edgeD l i).f0 (edgeD l i).f1:=by
 have hm:(i+1) % 4<4:=Nat.mod_lt _ (by decide)
 have h1:=hp _ (List.getElem_mem (show i<l.length by omega))
 have h2:=hp _ (List.getElem_mem (show (i+1) % 4<l.length by omega))
 unfold edgeD
 dsimp only
 rw [rdP (show i<l.length by omega),rdP (show (i+1) % 4<l.length by omega)]
 obtain ⟨a1,a2,a3,a4⟩:=h1
 obtain ⟨b1,b2,b3,b4⟩:=h2
 exact ⟨by omega,by omega,by omega,by omega⟩
theorem fourE_in {l:List Pt} (h4:l.length=4) (hp:∀ x,x ∈ l→ptIn x) (n:Nat) (hn:n≤4):∀ x,x ∈ fourE l n→dirIn1 x.f0 x.f1:=by
 intro x hx
 unfold fourE at hx
 obtain ⟨i,hi,hx⟩:=List.mem_flatMap.1 hx
 obtain ⟨a,b,c,d⟩:=edgeD_in h4 hp i (by have:=List.mem_range.1 hi;omega)
 simp [four] at hx
 rcases hx with rfl|rfl|rfl|rfl <;> (unfold dirIn1;dsimp only;omega)
theorem dirs_in {p q:List Pt} (h4:p.length=4) (h4' : q.length=4) (hp:∀ x,x ∈ p→ptIn x) (hq:∀ x,x ∈ q→ptIn x):∀ x,x ∈ dirsF p q→dirIn1 x.f0 x.f1:=by
 intro x hx
 unfold dirsF at hx
 rcases List.mem_append.1 hx with hx|hx
 ·rcases List.mem_append.1 hx with hx|hx
  ·rw [List.mem_singleton.1 hx]
   have h1:=hp _ (List.getElem_mem (show 0<p.length by omega))
   have h2:=hq _ (List.getElem_mem (show 0<q.length by omega))
   have e1:rd_T159 p 0=p[0]:=rdP (i:=0) (by omega)
   have e2:rd_T159 q 0=q[0]:=rdP (i:=0) (by omega)
   rw [e1,e2]
   obtain ⟨a1,a2,a3,a4⟩:=h1
   obtain ⟨b1,b2,b3,b4⟩:=h2
   unfold dirIn1;dsimp only;omega
  ·exact fourE_in h4 hp 4 (Nat.le_refl _) x hx
 ·exact fourE_in h4' hq 4 (Nat.le_refl _) x hx
theorem dirs_axis (a b c d:Int) (q:List Pt) (u v:Int) (h:(u=c-a∧v=0)∨(u = -(c-a)∧v=0)∨(u=0∧v = -(c-a))∨(u=0∧v=c-a)):(⟨u,v⟩:Pt) ∈ dirsF (rect a b c d) q:=by
 unfold dirsF
 refine List.mem_append_left _ (List.mem_append_right _ ?_)
 unfold fourE
 refine List.mem_flatMap.2 ⟨0,by simp,?_⟩
 have e:edgeD (rect a b c d) 0=⟨c-a,b-b⟩:=rfl
 rw [e]
 simp only [Int.sub_self,four,Int.neg_zero]
 rcases h with ⟨rfl,rfl⟩ | ⟨rfl,rfl⟩ | ⟨rfl,rfl⟩ | ⟨rfl,rfl⟩ <;> simp
theorem dirs_len (p q:List Pt):(dirsF p q).length=33:=by
 unfold dirsF;rw [List.length_append,List.length_append,fourE_len,fourE_len];rfl
end Go.Proofs.YtiioklboaookiaaGreatDoor.Q
namespace Go.Proofs.YtiioklboaookiaaGreatDoor.Q
open Go.RowKit Go.Proofs.YtiioklboaookiaaGreatDoorW.PrintWords Go.Proofs.YtiioklboaookiaaGreatDoorW.PrintLast Go.Proofs.YtiioklboaookiaaGreatDoor.Hand Go.Proofs.YtiioklboaookiaaGreatDoorW.PrintMore
attribute [local go_sem] max2_int min2_int max_two min_two max_three min_three max_four min_four
set_option linter.unusedVariables false
set_option linter.unusedSimpArgs false
theorem pwithin_in (a:Int) (h1:1≤a) (h2:a≤512):plane_within.f a 1 512=some true:=by
 unfold plane_within.f
 rw [if_pos (show a ≥ 1 by omega)]
 simp [h2]
set_option maxHeartbeats 4000000 in
set_option maxRecDepth 100000 in
theorem isSet_walk (A0:Option Addr) (c0:Nat) (l:List S159) (w:World) (h1:1≤l.length) (h2:l.length≤512) (hr:Kd.C k159 w A0 l.length l) (hv:∀ x,x ∈ l→ptOk x=true) :
  Calls Tryz.prog 78 #[.slice A0 l.length c0] w fun e w'=>e=.returned (.bool true)∧Below w.heap.size w w':=by
 have HR:=Aside0.mk hr
 have HV:=hid hv
 have HW:=hid (pwithin_in (l.length:Int) (by omega) (by omega))
 clear hr hv
 go_enter Tryz.func78,Tryz.ntmps78
 go_wp2_with (fail)
 refine (plane_within.calls (l.length:Int) 1 512 true _ HW.out).mono ?_
 rintro e w1 ⟨rfl,nd,rfl⟩
 have hb1:=pw_below_drewN (Below.refl w.heap.size w) nd
 have HB1:=Aside0.mk hb1
 have HC:=hid (pcontains_no A0 c0 l (w.drewN nd) h2 (Kd.C_below HR.out hb1) HV.out)
 clear hb1
 go_wp2_with (fail)
 refine HC.out.mono ?_
 rintro e w2 ⟨rfl,hb2⟩
 have HB2:=Aside0.mk (HB1.out.trans (hb2.mono HB1.out.size))
 clear hb2 HC
 go_wp2_with (fail)
 go_ret
 exact ⟨rfl,HB2.out⟩
end Go.Proofs.YtiioklboaookiaaGreatDoor.Q
namespace Go.Proofs.YtiioklboaookiaaGreatDoor.Q
open Go.RowKit Go.Proofs.YtiioklboaookiaaGreatDoorW.PrintWords Go.Proofs.YtiioklboaookiaaGreatDoorW.PrintLast Go.Proofs.YtiioklboaookiaaGreatDoor.Hand Go.Proofs.YtiioklboaookiaaGreatDoorW.PrintMore
attribute [local go_sem] max2_int min2_int max_two min_two max_three min_three max_four min_four
set_option linter.unusedVariables false
set_option linter.unusedSimpArgs false
theorem info2i:(Tryz.prog.info? 42).map (fun i=>(i.zero,i.size,i.bytes))=some (some (.agg #[.int .i64 0,.int .i64 0]),2,16):=by kernel_rfl
theorem edge_eq {l:List Pt} (h4:l.length=4) {i:Nat} (hi:i<4):plane_edge.f l (i:Int)=some ((rd_T159 l (i:Int)).f0,(rd_T159 l (i:Int)).f1,(rd_T159 l (((i+1) % 4:Nat):Int)).f0,(rd_T159 l (((i+1) % 4:Nat):Int)).f1):=by
 have e:Int.tmod (wrap64 ((i:Int)+1)) (l.length:Int)=(((i+1) % 4:Nat):Int):=by
  rw [w64_in _ (by omega) (by omega),h4]
  have:i=0∨i=1∨i=2∨i=3:=by omega
  rcases this with rfl|rfl|rfl|rfl <;> rfl
 have hm:(i+1) % 4<4:=Nat.mod_lt _ (by decide)
 unfold plane_edge.f
 rw [e,if_pos (by omega),if_pos (by omega),if_neg (by omega),if_pos (by omega),if_pos (by omega)]
def accD (p q:List Pt):Nat→List Pt
 | 0=>[⟨(rd_T159 q 0).f0-(rd_T159 p 0).f0,(rd_T159 q 0).f1-(rd_T159 p 0).f1⟩]
 | 1=>[⟨(rd_T159 q 0).f0-(rd_T159 p 0).f0,(rd_T159 q 0).f1-(rd_T159 p 0).f1⟩]++fourE p 4
 | _=>dirsF p q
theorem accD_len (p q:List Pt) (k:Nat):(accD p q k).length≤33:=by
 match k with
 | 0=>simp [accD]
 | 1=>simp [accD,fourE_len]
 | k+2=>show (dirsF p q).length≤33;rw [dirs_len];exact Nat.le_refl _
theorem accD_succ (p q:List Pt) (k:Nat) (hk:k<2):accD p q k++fourE (if k=0 then p else q) 4=accD p q (k+1):=by
 have:k=0∨k=1:=by omega
 rcases this with rfl|rfl <;> rfl
set_option maxHeartbeats 8000000 in
set_option maxRecDepth 100000 in
theorem dirs_walk (p q:List Pt) (gp cp gq cq:Nat) (w:World) (h4:p.length=4) (h4' : q.length=4) (hcp:4≤cp) (hcq:4≤cq) (hp:∀ x,x ∈ p→ptIn x) (hq:∀ x,x ∈ q→ptIn x) (hP:Kd.C k159 w (some ⟨gp,0,none⟩) 4 p) (hQ:Kd.C k159 w (some ⟨gq,0,none⟩) 4 q) :
  Calls Tryz.prog 83 #[.slice (some ⟨gp,0,none⟩) 4 cp,.slice (some ⟨gq,0,none⟩) 4 cq] w fun e w'=>∃ v,e=.returned v∧Kd.R k159 42 w' w.heap.size (fun _=>True) v (dirsF p q)∧Below w.heap.size w w':=by
 have HP:=Aside0.mk hP
 have HQ:=Aside0.mk hQ
 have HPI:=hid hp
 have HQI:=hid hq
 have H4:=hid h4
 have H4':=hid h4'
 obtain ⟨ad,e0,hx0,hx1⟩:=at_T159 hP 0 (by omega) (by omega)
 cases e0
 obtain ⟨ad,e0,hy0,hy1⟩:=at_T159 hQ 0 (by omega) (by omega)
 cases e0
 have hxi:ptIn (rd_T159 p 0):=hp _ (by have:=rdP (l:=p) (i:=0) (by omega);rw [show ((0:Nat):Int)=0 from rfl] at this;rw [this];exact List.getElem_mem _)
 have hyi:ptIn (rd_T159 q 0):=hq _ (by have:=rdP (l:=q) (i:=0) (by omega);rw [show ((0:Nat):Int)=0 from rfl] at this;rw [this];exact List.getElem_mem _)
 obtain ⟨x,hx⟩:∃ x,x=rd_T159 p 0:=⟨_,rfl⟩
 obtain ⟨y,hy⟩:∃ y,y=rd_T159 q 0:=⟨_,rfl⟩
 rw [← hx] at hx0 hx1 hxi
 rw [← hy] at hy0 hy1 hyi
 have HX:=hid hx
 have HY:=hid hy
 obtain ⟨a1,a2,a3,a4⟩:=hxi
 obtain ⟨b1,b2,b3,b4⟩:=hyi
 obtain ⟨B,hB⟩:∃ B,B=w.heap.size:=⟨_,rfl⟩
 have HBE:=hid hB
 have HS:=hid (show w.drew.cell? ⟨gq,0,none⟩=some (.int .i64 y.f0)∧w.drew.cell? ⟨gp,0,none⟩=some (.int .i64 x.f0)∧w.drew.cell? ⟨gq,1,none⟩=some (.int .i64 y.f1)∧w.drew.cell? ⟨gp,1,none⟩=some (.int .i64 x.f1) from ⟨hy0,hx0,hy1,hx1⟩)
 have e1:wrap64 (y.f0-x.f0)=y.f0-x.f0:=w64_in _ (by omega) (by omega)
 have e2:wrap64 (y.f1-x.f1)=y.f1-x.f1:=w64_in _ (by omega) (by omega)
 rw [← hB]
 clear hP hQ hp hq h4 h4' hx0 hx1 hy0 hy1 hx hy hB
 go_enter Tryz.func83,Tryz.ntmps83
 go_wp2_with (fail)
 refine start_ (n:=21) (S:=fun w'=>w'.cell? ⟨gq,0,none⟩=some (.int .i64 y.f0)∧w'.cell? ⟨gp,0,none⟩=some (.int .i64 x.f0)∧w'.cell? ⟨gq,1,none⟩=some (.int .i64 y.f1)∧w'.cell? ⟨gp,1,none⟩=some (.int .i64 x.f1)) (ds:=[]) #[false,false,false,false,false,false,false,false,false,false,false,false,false,false,false,false,false,false,false,false,false] (by kernel_rfl) rfl rfl HS.out (fun hHeld=>?_)
 refine pure_ (i:=0) (N:=some 12) (v:=?_) (a':=?_) #[true,false,false,false,false,false,false,false,false,false,false,false,false,false,false,false,false,false,false,false,false] rfl rfl (by kernel_rfl) (fun _ _ _ h=>h) (Or.inl ⟨by rfl,?_⟩) ?_ ?_
 rotate_left
 ·intro w'
  go_simp
  with_reducible rfl
 rotate_left
 ·simp only [Act.put,sp__,i64_w,i32_w]
  rfl
 refine pure_ (i:=1) (N:=some 13) (v:=?_) (a':=?_) #[true,true,false,false,false,false,false,false,false,false,false,false,false,false,false,false,false,false,false,false,false] rfl rfl (by kernel_rfl) (fun _ _ _ h=>h) (Or.inl ⟨by rfl,?_⟩) ?_ ?_
 rotate_left
 ·intro w'
  go_simp
  with_reducible rfl
 rotate_left
 ·simp only [Act.put,sp__,i64_w,i32_w]
  rfl
 refine pure_ (i:=2) (N:=some 14) (v:=?_) (a':=?_) #[true,true,true,false,false,false,false,false,false,false,false,false,false,false,false,false,false,false,false,false,false] rfl rfl (by kernel_rfl) (fun _ _ _ h=>h) (Or.inl ⟨by rfl,?_⟩) ?_ ?_
 rotate_left
 ·intro w'
  go_simp
  with_reducible rfl
 rotate_left
 ·simp only [Act.put,sp__,i64_w,i32_w]
  rfl
 refine take_ (i:=3) (N:=some 15) (v:=?_) (a':=?_) #[true,true,true,true,false,false,false,false,false,false,false,false,false,false,false,false,false,false,false,false,false] rfl rfl (by kernel_rfl) (fun _ _ _ h=>h) (Or.inl ⟨by rfl,?_⟩) hHeld ?_ ?_
 rotate_left
 ·rintro w' ⟨s0,s1,s2,s3⟩
  go_simp
  with_reducible rfl
 rotate_left
 ·simp only [Act.put,sp__,i64_w,i32_w]
  rfl
 refine pure_ (i:=4) (N:=some 16) (v:=?_) (a':=?_) #[true,true,true,true,true,false,false,false,false,false,false,false,false,false,false,false,false,false,false,false,false] rfl rfl (by kernel_rfl) (fun _ _ _ h=>h) (Or.inl ⟨by rfl,?_⟩) ?_ ?_
 rotate_left
 ·intro w'
  go_simp
  with_reducible rfl
 rotate_left
 ·simp only [Act.put,sp__,i64_w,i32_w]
  rfl
 refine pure_ (i:=5) (N:=some 17) (v:=?_) (a':=?_) #[true,true,true,true,true,true,false,false,false,false,false,false,false,false,false,false,false,false,false,false,false] rfl rfl (by kernel_rfl) (fun _ _ _ h=>h) (Or.inl ⟨by rfl,?_⟩) ?_ ?_
 rotate_left
 ·intro w'
  go_simp
  with_reducible rfl
 rotate_left
 ·simp only [Act.put,sp__,i64_w,i32_w]
  rfl
 refine pure_ (i:=6) (N:=some 18) (v:=?_) (a':=?_) #[true,true,true,true,true,true,true,false,false,false,false,false,false,false,false,false,false,false,false,false,false] rfl rfl (by kernel_rfl) (fun _ _ _ h=>h) (Or.inl ⟨by rfl,?_⟩) ?_ ?_
 rotate_left
 ·intro w'
  go_simp
  with_reducible rfl
 rotate_left
 ·simp only [Act.put,sp__,i64_w,i32_w]
  rfl
 refine take_ (i:=7) (N:=some 19) (v:=?_) (a':=?_) #[true,true,true,true,true,true,true,true,false,false,false,false,false,false,false,false,false,false,false,false,false] rfl rfl (by kernel_rfl) (fun _ _ _ h=>h) (Or.inl ⟨by rfl,?_⟩) hHeld ?_ ?_
 rotate_left
 ·rintro w' ⟨s0,s1,s2,s3⟩
  go_simp
  with_reducible rfl
 rotate_left
 ·simp only [Act.put,sp__,i64_w,i32_w]
  rfl
 refine pure_ (i:=8) (N:=some 20) (v:=?_) (a':=?_) #[true,true,true,true,true,true,true,true,true,false,false,false,false,false,false,false,false,false,false,false,false] rfl rfl (by kernel_rfl) (fun _ _ _ h=>h) (Or.inl ⟨by rfl,?_⟩) ?_ ?_
 rotate_left
 ·intro w'
  go_simp
  with_reducible rfl
 rotate_left
 ·simp only [Act.put,sp__,i64_w,i32_w]
  rfl
 refine pure_ (i:=9) (N:=some 21) (v:=?_) (a':=?_) #[true,true,true,true,true,true,true,true,true,true,false,false,false,false,false,false,false,false,false,false,false] rfl rfl (by kernel_rfl) (fun _ _ _ h=>h) (Or.inl ⟨by rfl,?_⟩) ?_ ?_
 rotate_left
 ·intro w'
  go_simp
  with_reducible rfl
 rotate_left
 ·simp only [Act.put,sp__,i64_w,i32_w]
  rfl
 refine pure_ (i:=10) (N:=some 22) (v:=?_) (a':=?_) #[true,true,true,true,true,true,true,true,true,true,true,false,false,false,false,false,false,false,false,false,false] rfl rfl (by kernel_rfl) (fun _ _ _ h=>h) (Or.inl ⟨by rfl,?_⟩) ?_ ?_
 rotate_left
 ·intro w'
  go_simp
  with_reducible rfl
 rotate_left
 ·simp only [Act.put,sp__,i64_w,i32_w]
  rfl
 refine pure_ (i:=11) (N:=some 23) (v:=?_) (a':=?_) #[true,true,true,true,true,true,true,true,true,true,true,true,false,false,false,false,false,false,false,false,false] rfl rfl (by kernel_rfl) (fun _ _ _ h=>h) (Or.inl ⟨by rfl,?_⟩) ?_ ?_
 rotate_left
 ·intro w'
  go_simp
  with_reducible rfl
 rotate_left
 ·simp only [Act.put,sp__,i64_w,i32_w]
  rfl
 refine take_ (i:=12) (N:=some 24) (v:=?_) (a':=?_) #[true,true,true,true,true,true,true,true,true,true,true,true,true,false,false,false,false,false,false,false,false] rfl rfl (by kernel_rfl) (fun _ _ _ h=>h) (Or.inl ⟨by rfl,?_⟩) hHeld ?_ ?_
 rotate_left
 ·rintro w' ⟨s0,s1,s2,s3⟩
  go_simp
  with_reducible rfl
 rotate_left
 ·simp only [Act.put,sp__,i64_w,i32_w]
  rfl
 refine pure_ (i:=13) (N:=some 25) (v:=?_) (a':=?_) #[true,true,true,true,true,true,true,true,true,true,true,true,true,true,false,false,false,false,false,false,false] rfl rfl (by kernel_rfl) (fun _ _ _ h=>h) (Or.inl ⟨by rfl,?_⟩) ?_ ?_
 rotate_left
 ·intro w'
  go_simp
  with_reducible rfl
 rotate_left
 ·simp only [Act.put,sp__,i64_w,i32_w]
  rfl
 refine pure_ (i:=14) (N:=some 26) (v:=?_) (a':=?_) #[true,true,true,true,true,true,true,true,true,true,true,true,true,true,true,false,false,false,false,false,false] rfl rfl (by kernel_rfl) (fun _ _ _ h=>h) (Or.inl ⟨by rfl,?_⟩) ?_ ?_
 rotate_left
 ·intro w'
  go_simp
  with_reducible rfl
 rotate_left
 ·simp only [Act.put,sp__,i64_w,i32_w]
  rfl
 refine pure_ (i:=15) (N:=some 27) (v:=?_) (a':=?_) #[true,true,true,true,true,true,true,true,true,true,true,true,true,true,true,true,false,false,false,false,false] rfl rfl (by kernel_rfl) (fun _ _ _ h=>h) (Or.inl ⟨by rfl,?_⟩) ?_ ?_
 rotate_left
 ·intro w'
  go_simp
  with_reducible rfl
 rotate_left
 ·simp only [Act.put,sp__,i64_w,i32_w]
  rfl
 refine take_ (i:=16) (N:=some 28) (v:=?_) (a':=?_) #[true,true,true,true,true,true,true,true,true,true,true,true,true,true,true,true,true,false,false,false,false] rfl rfl (by kernel_rfl) (fun _ _ _ h=>h) (Or.inl ⟨by rfl,?_⟩) hHeld ?_ ?_
 rotate_left
 ·rintro w' ⟨s0,s1,s2,s3⟩
  go_simp
  with_reducible rfl
 rotate_left
 ·simp only [Act.put,sp__,i64_w,i32_w]
  rfl
 refine pure_ (i:=17) (N:=some 29) (v:=?_) (a':=?_) #[true,true,true,true,true,true,true,true,true,true,true,true,true,true,true,true,true,true,false,false,false] rfl rfl (by kernel_rfl) (fun _ _ _ h=>h) (Or.inl ⟨by rfl,?_⟩) ?_ ?_
 rotate_left
 ·intro w'
  go_simp
  with_reducible rfl
 rotate_left
 ·simp only [Act.put,sp__,i64_w,i32_w]
  rfl
 refine pure_ (i:=18) (N:=some 30) (v:=?_) (a':=?_) #[true,true,true,true,true,true,true,true,true,true,true,true,true,true,true,true,true,true,true,false,false] rfl rfl (by kernel_rfl) (fun _ _ _ h=>h) (Or.inl ⟨by rfl,?_⟩) ?_ ?_
 rotate_left
 ·intro w'
  go_simp
  with_reducible rfl
 rotate_left
 ·simp only [Act.put,sp__,i64_w,i32_w]
  rfl
 refine one_ (i:=19) (N:=some 31) #[true,true,true,true,true,true,true,true,true,true,true,true,true,true,true,true,true,true,true,true,false] rfl rfl (by kernel_rfl) (by decide) (fun K hK=>?_)
 refine value_ (w1:=?_) (v:=?_) (by rfl) rfl ?_ ?_
 rotate_left 2
 ·go_simp
  first|(refine ⟨?_,?_⟩ <;> rfl)|rfl
 refine hK.out _ _ ⟨pw_cell_below (below_alloc (Below.refl _ _) _) HS.out.1,pw_cell_below (below_alloc (Below.refl _ _) _) HS.out.2.1,pw_cell_below (below_alloc (Below.refl _ _) _) HS.out.2.2.1,pw_cell_below (below_alloc (Below.refl _ _) _) HS.out.2.2.2⟩ (fun hHeld=>?_)
 clear hK K
 refine norm_ (a':=?_) ?_ ?_
 rotate_left
 ·show Act.put _ (some 31) _=_
  simp only [Act.put,sp__,i64_w,i32_w]
  rfl
 refine pure_ (i:=20) (N:=some 5) (v:=?_) (a':=?_) #[true,true,true,true,true,true,true,true,true,true,true,true,true,true,true,true,true,true,true,true,true] rfl rfl (by kernel_rfl) (fun _ _ _ h=>h) (Or.inl ⟨by rfl,?_⟩) ?_ ?_
 rotate_left
 ·intro w'
  go_simp
  with_reducible rfl
 rotate_left
 ·simp only [Act.put,sp__,i64_w,i32_w]
  rfl
 refine done_ (by kernel_rfl) ?_
 have HR0:=Aside0.mk (Kd.R_alloc (R_fresh k159 encPt (fun _=>rfl) (fun w base ok z=>k159_mkM w base ok z) 42 w.drew B (by rw [HBE.out];exact Nat.le_refl _) [⟨y.f0-x.f0,y.f1-x.f1⟩] (by simp)) (.cells #[.slice (some ⟨gp,0,none⟩) 4 cp,.slice (some ⟨gq,0,none⟩) 4 cq] 133))
 have HB0:=Aside0.mk (show Below B w ((w.drew.alloc (.cells #[.int .i64 (y.f0-x.f0),.int .i64 (y.f1-x.f1)] 42)).alloc (.cells #[.slice (some ⟨gp,0,none⟩) 4 cp,.slice (some ⟨gq,0,none⟩) 4 cq] 133)) from ((below_drew (Below.refl B w)).alloc (by rw [HBE.out];exact Nat.le_refl _) _).alloc (by rw [HBE.out];simp) _)
 have HK0:=hid (show ((w.drew.alloc (.cells #[.int .i64 (y.f0-x.f0),.int .i64 (y.f1-x.f1)] 42)).alloc (.cells #[.slice (some ⟨gp,0,none⟩) 4 cp,.slice (some ⟨gq,0,none⟩) 4 cq] 133)).heap[w.heap.size+1]?=some (.cells #[.slice (some ⟨gp,0,none⟩) 4 cp,.slice (some ⟨gq,0,none⟩) 4 cq] 133 (0,0)) from heap_new _ _ _ (by simp))
 obtain ⟨sb,hsb⟩:∃ sb,sb=w.heap.size+1:=⟨_,rfl⟩
 rw [← hsb] at HK0
 go_wp2_with (fail)
 rw [← hsb]
 obtain ⟨v5,hv5⟩:∃ v5,v5=Value.slice (some ⟨w.drew.heap.size,0,none⟩) 1 1:=⟨_,rfl⟩
 have HR1:=Aside0.mk (show Kd.R k159 42 ((w.drew.alloc (.cells #[.int .i64 (y.f0-x.f0),.int .i64 (y.f1-x.f1)] 42)).alloc (.cells #[.slice (some ⟨gp,0,none⟩) 4 cp,.slice (some ⟨gq,0,none⟩) 4 cq] 133)) B (fun _=>True) v5 (accD p q 0) by rw [hv5];unfold accD;rw [← HX.out,← HY.out];exact HR0.out)
 have hv5' : Value.slice (some ⟨w.heap.size,0,none⟩) 1 1=v5:=hv5.symm
 rw [hv5']
 clear hv5 hv5' hsb HR0
 go_loopg [5,36] 2 (fun kq v5 v36 w'=>∃ k:Nat,v36=.int .i64 k∧k+kq=2∧Aside0 (Kd.R k159 42 w' B (fun _=>True) v5 (accD p q k))∧Aside0 (Below B w w')∧Hid (w'.heap[sb]?=some (.cells #[.slice (some ⟨gp,0,none⟩) 4 cp,.slice (some ⟨gq,0,none⟩) 4 cq] 133 (0,0))))
 case atStart=>exact ⟨0,rfl,rfl,HR1,HB0,HK0⟩
 case round =>
  clear HR1 HB0 HK0 HS e1 e2 a1 a2 a3 a4 b1 b2 b3 b4
  obtain ⟨k,rfl,hk,HR,HB,HK⟩:=hrel
  by_cases hlt:k<2
  ·have d1:decide ((k:Int)<2)=true:=decide_eq_true (by omega)
   have k0:(0:Int)≤(k:Int):=by omega
   have k1:(k:Int)<2:=by omega
   obtain ⟨l,hl⟩:∃ l,l=if k=0 then p else q:=⟨_,rfl⟩
   obtain ⟨gl,cl,hcell,hCl,hcl4⟩:∃ gl cl,wr.cell? ⟨sb,k,none⟩=some (.slice (some ⟨gl,0,none⟩) 4 cl)∧(∀ w',Below w.heap.size w w'→Kd.C k159 w' (some ⟨gl,0,none⟩) 4 l)∧4≤cl:=by
    have hk01:k=0∨k=1:=by omega
    rcases hk01 with rfl|rfl
    ·exact ⟨gp,cp,by rw [blk_cell HK.out];rfl,fun w' hbw=>by rw [hl];exact Kd.C_below HP.out hbw,hcp⟩
    ·exact ⟨gq,cq,by rw [blk_cell HK.out];rfl,fun w' hbw=>by rw [hl];exact Kd.C_below HQ.out hbw,hcq⟩
   have HL4:=hid (show l.length=4 by rw [hl];split <;> first|exact H4.out|exact H4'.out)
   have HLI:=hid (show ∀ x,x ∈ l→ptIn x by rw [hl];split <;> first|exact HPI.out|exact HQI.out)
   have HLE:=hid hl
   have HCW:=hid hCl
   have HCl:=Aside0.mk (hCl wr (by have h:=HB.out;rw [HBE.out] at h;exact h))
   have HLT:=hid hlt
   obtain ⟨D,hD⟩:∃ D,D=accD p q k:=⟨_,rfl⟩
   rw [← hD] at HR
   have HD:=hid hD
   have HRI:=Aside0.mk (show Kd.R k159 42 wr B (fun _=>True) u5 (D++fourE l 0) by show Kd.R _ _ _ _ _ _ (D++[]);rw [List.append_nil];exact HR.out)
   have HDL:=hid (show D.length≤33 by rw [hD];exact accD_len p q k)
   have HBZ:=hid (show B≤wr.heap.size by rw [HBE.out];exact HB.out.size)
   clear hl hCl hlt hD HR
   have HBI0:Aside0 (Below wr.heap.size wr wr):=⟨Below.refl _ _⟩
   obtain ⟨Wo,hWo⟩:∃ Wo,Wo=wr:=⟨_,rfl⟩
   have HWo:=hid hWo
   clear hWo
   go_wp2_with (fail)
   go_loopg [5,42] 4 (fun kq v5 v42 w'=>∃ i:Nat,v42=.int .i64 i∧i+kq=4∧Aside0 (Kd.R k159 42 w' B (fun _=>True) v5 (D++fourE l i))∧Aside0 (Below B w w')∧Hid (w'.heap[sb]?=some (.cells #[.slice (some ⟨gp,0,none⟩) 4 cp,.slice (some ⟨gq,0,none⟩) 4 cq] 133 (0,0)))∧Aside0 (Kd.C k159 w' (some ⟨gl,0,none⟩) 4 l))
   case atStart=>exact ⟨0,rfl,rfl,HRI,HB,HK,HCl⟩
   case round =>
    clear HRI HB HK HCl HBI0 HBZ HWo hcell
    obtain ⟨i,rfl,hi,HR,HB,HK,HCl⟩:=hrel
    by_cases hlt:i<4
    ·have d2:decide ((i:Int)<4)=true:=decide_eq_true (by omega)
     have i0:(0:Int)≤(i:Int):=by omega
     have i1:(i:Int)<4:=by omega
     have HLT':=hid hlt
     have HED:=hid (edge_eq HL4.out hlt)
     have HEI:=hid (edgeD_in HL4.out HLI.out i hlt)
     have HBZ:=hid (show B≤wr.heap.size by rw [HBE.out];exact HB.out.size)
     obtain ⟨r1,hr1⟩:∃ r1,r1=(rd_T159 l (i:Int)).f0:=⟨_,rfl⟩
     obtain ⟨r2,hr2⟩:∃ r2,r2=(rd_T159 l (i:Int)).f1:=⟨_,rfl⟩
     obtain ⟨r3,hr3⟩:∃ r3,r3=(rd_T159 l (((i+1) % 4:Nat):Int)).f0:=⟨_,rfl⟩
     obtain ⟨r4,hr4⟩:∃ r4,r4=(rd_T159 l (((i+1) % 4:Nat):Int)).f1:=⟨_,rfl⟩
     have hx:(edgeD l i).f0=r3-r1:=by rw [hr1,hr3];rfl
     have hy:(edgeD l i).f1=r4-r2:=by rw [hr2,hr4];rfl
     rw [← hr1,← hr2,← hr3,← hr4] at HED
     obtain ⟨x,hxx⟩:∃ x,x=(edgeD l i).f0:=⟨_,rfl⟩
     obtain ⟨y,hyy⟩:∃ y,y=(edgeD l i).f1:=⟨_,rfl⟩
     rw [← hxx] at hx HEI
     rw [← hyy] at hy HEI
     have HX:=hid hxx
     have HY:=hid hyy
     have HX':=hid hx
     have HY':=hid hy
     have HLl:=hid (show (4:Nat)=l.length from HL4.out.symm)
     clear hlt hr1 hr2 hr3 hr4 hxx hyy hx hy
     have hEC:Calls Tryz.prog 79 #[.slice (some ⟨gl,0,none⟩) 4 cl,.int .i64 (i:Int)] wr fun e w'=>e=.returned (.agg #[.int .i64 r1,.int .i64 r2,.int .i64 r3,.int .i64 r4])∧Below wr.heap.size wr w':=by
      have h:=plane_edge.calls (some ⟨gl,0,none⟩) cl l (i:Int) r1 r2 r3 r4 wr (by rw [HL4.out];exact HCl.out) (by rw [HL4.out];exact hcl4) HED.out
      rw [HL4.out] at h;exact h
     have HEC:=hid hEC
     clear hEC
     go_wp2_with (fail)
     refine HEC.out.mono ?_
     rintro e w9 ⟨rfl,hb9⟩
     have HB9:=Aside0.mk (show Below wr.heap.size wr (w9.alloc (.cells #[.int .i64 r1,.int .i64 r2,.int .i64 r3,.int .i64 r4] 178)) from hb9.alloc hb9.size _)
     have hcs:∀ j u,#[Value.int .i64 r1,.int .i64 r2,.int .i64 r3,.int .i64 r4][j]?=some u→(w9.alloc (.cells #[.int .i64 r1,.int .i64 r2,.int .i64 r3,.int .i64 r4] 178)).cell? ⟨w9.heap.size,j,none⟩=some u:=fun j u hu=>by rw [World.cell?_alloc_new];exact hu
     have c0:=hcs 0 _ rfl
     have c1:=hcs 1 _ rfl
     have c2:=hcs 2 _ rfl
     have c3:=hcs 3 _ rfl
     clear hb9 HEC hcs
     have wx:IntKind.i64.wrap (r3-r1)=x:=by rw [← HX'.out];have:=HEI.out;exact (i64_w _).trans (w64_in _ (by obtain ⟨h1,h2,h3,h4⟩:=this;omega) (by obtain ⟨h1,h2,h3,h4⟩:=this;omega))
     have wy:IntKind.i64.wrap (r4-r2)=y:=by rw [← HY'.out];have:=HEI.out;exact (i64_w _).trans (w64_in _ (by obtain ⟨h1,h2,h3,h4⟩:=this;omega) (by obtain ⟨h1,h2,h3,h4⟩:=this;omega))
     go_wp2_with (fail)
     go_quiet (fail)
     obtain ⟨W2,hW2⟩:∃ W2,W2=(w9.alloc (.cells #[.int .i64 r1,.int .i64 r2,.int .i64 r3,.int .i64 r4] 178)).drewN nq:=⟨_,rfl⟩
     have hb2:Below wr.heap.size wr W2:=by rw [hW2];exact pw_below_drewN HB9.out nq
     have HR2:=Aside0.mk (Kd.R_alloc (Kd.R_below HR.out hb2) (.cells #[.int .i64 x,.int .i64 y,.int .i64 (-x),.int .i64 (-y),.int .i64 y,.int .i64 (-x),.int .i64 (-y),.int .i64 x] 42))
     have HB2:=Aside0.mk (show Below B w (W2.alloc (.cells #[.int .i64 x,.int .i64 y,.int .i64 (-x),.int .i64 (-y),.int .i64 y,.int .i64 (-x),.int .i64 (-y),.int .i64 x] 42)) from (HB.out.trans (hb2.mono HBZ.out)).alloc (by have:=HBZ.out;have:=hb2.size;omega) _)
     have HK2:=hid (blk_alloc (blk_below HK.out hb2) (.cells #[.int .i64 x,.int .i64 y,.int .i64 (-x),.int .i64 (-y),.int .i64 y,.int .i64 (-x),.int .i64 (-y),.int .i64 x] 42))
     have HCl2:=Aside0.mk (Kd.C_alloc (Kd.C_below HCl.out hb2) (.cells #[.int .i64 x,.int .i64 y,.int .i64 (-x),.int .i64 (-y),.int .i64 y,.int .i64 (-x),.int .i64 (-y),.int .i64 x] 42))
     have HS2:=Aside0.mk (show Kd.C k159 (W2.alloc (.cells #[.int .i64 x,.int .i64 y,.int .i64 (-x),.int .i64 (-y),.int .i64 y,.int .i64 (-x),.int .i64 (-y),.int .i64 x] 42)) (some ⟨W2.heap.size,0,none⟩) 4 (four x y) by
      obtain ⟨A',c',he,_,hC⟩:=Kd.R_reads (R_fresh k159 encPt (fun _=>rfl) (fun w base ok z=>k159_mkM w base ok z) 42 W2 W2.heap.size (Nat.le_refl _) (four x y) (by simp [four]))
      cases he;exact hC)
     have hBsz:B≤(W2.alloc (.cells #[.int .i64 x,.int .i64 y,.int .i64 (-x),.int .i64 (-y),.int .i64 y,.int .i64 (-x),.int .i64 (-y),.int .i64 x] 42)).heap.size:=by have:=HBZ.out;have:=hb2.size;simp;omega
     have HBS:=hid hBsz
     rw [← hW2]
     clear hW2 hb2 HR HB HK HCl HB9 c0 c1 c2 c3 wx wy hBsz
     have hxb:=HEI.out
     obtain ⟨hb1,hb2,hb3,hb4⟩:=hxb
     have wnx:wrap64 (-x) = -x:=w64_in _ (by omega) (by omega)
     have wny:wrap64 (-y) = -y:=w64_in _ (by omega) (by omega)
     go_wp2_with ((with_reducible refine gate_builtin (b:=.append) (xs:=#[.tmp 62,.tmp 79]) rfl ?_);at_builtin;refine Kd.R_append_rows k159 (Rr:=k159.K (W2.alloc (.cells #[.int .i64 x,.int .i64 y,.int .i64 (-x),.int .i64 (-y),.int .i64 y,.int .i64 (-x),.int .i64 (-y),.int .i64 x] 42))) (w0:=w) B rfl (.tmp 62) (.tmp 79) 51 42 (.agg #[.int .i64 0,.int .i64 0]) 16 rfl Tryz.underlying51 info2i rfl (by decide) (by omega) _ (D++fourE l i) (four x y) (some ⟨W2.heap.size,0,none⟩) 4 4 (fun _=>True) (fun _=>False) rfl rfl HR2.out HS2.out (fun x cs hk=>by rw [k159_open hk];exact k159_mkM _ _ _ x) (fun _ hk=>hk.elim) (fun _ _=>trivial) HB2.out HBS.out ?aL ?_;(case aL=>rw [List.length_append,fourE_len];have:=HDL.out;omega);intro v6 w6 ho hb hg hat;have HO6:=Aside0.mk ho;have HB6:=Aside0.mk hb;have HG6:=Aside0.mk hg;clear ho hb hg hat)
     have HR6:=Aside0.mk (show Kd.R k159 42 w6 B (fun _=>True) v6 (D++fourE l (i+1)) by
      rw [fourE_succ,← HX.out,← HY.out,← List.append_assoc];exact HO6.out)
     have HK6:=hid (blk_grown HK2.out HG6.out (Kd.R_ne HR2.out HK2.out (by decide)))
     have HCl6:=Aside0.mk (show Kd.C k159 w6 (some ⟨gl,0,none⟩) 4 l by
      have h:=HB6.out;rw [HBE.out] at h;exact HCW.out w6 h)
     go_roundg (4-(i+1))
     case rel=>exact ⟨i+1,by go_num,by have:=HLT'.out;omega,HR6,HB6,HK6,HCl6⟩
     case measure=>have:=HLT'.out;omega
    ·have hi4:i=4:=by omega
     subst hi4
     have d2:decide (((4:Nat):Int)<4)=false:=by decide
     have HR6:=Aside0.mk (show Kd.R k159 42 wr B (fun _=>True) u5 (accD p q (k+1)) by
      have h:=HR.out
      rw [HLE.out,HD.out,accD_succ p q k HLT.out] at h;exact h)
     clear HR hlt
     go_wp2_with (fail)
     go_roundg (2-(k+1))
     case rel=>exact ⟨k+1,by go_num,by have:=HLT.out;omega,HR6,HB,HK⟩
     case measure=>have:=HLT.out;omega
  ·have hk2:k=2:=by omega
   subst hk2
   have d1:decide (((2:Nat):Int)<2)=false:=by decide
   go_wp2_with (fail)
   go_ret
   exact ⟨_,rfl,HR.out,HB.out⟩
end Go.Proofs.YtiioklboaookiaaGreatDoor.Q
