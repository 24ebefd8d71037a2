/- A part of the proof: what the law's row needs. -/
import Derived.WideKeyEntry
import Derived.DeepKeys4
import Derived.Maps.Own
import Derived.Maps.OwnOps
import Derived.Maps.OwnSet
import Derived.Maps.Views
import Derived.Laws.MakeOwn
import Derived.Laws.StructEq
import Derived.Deep.QuietTactic
import Derived.BigQuiet
import Derived.Test.YtiioklboaookiaaGreatDoorProg
import Derived.Below
import Derived.Deep.Draws
import Derived.Deep.AppendLies
import Derived.Maps.AppendAt
import Derived.OwnWalk
import Derived.Laws.BytesArg
import Derived.Laws.OwnMore
import Derived.Deep.OwnRows
import Derived.Tactics
import Derived.Lib.ConvBytes
import Derived.Laws.Slices
import Derived.WalkKit
import Derived.KernelRfl
import Derived.RowKit3
import Derived.Deep.LoopGhost
import Derived.WideLaws
import Derived.Deep.DeepCutAuto
import Derived.Deep.CutBlock
import Derived.Deep.RegionHeld3
import Derived.Laws.Rows
import Derived.Lib.AppendStr
import Derived.ArgAppend
import Derived.Laws.IdiomCopy
import Derived.OrdersHeld
import Derived.Laws.BitsLemmas
import Derived.RowKit
import Derived.RegionTactic
import Derived.ChangeAlike
import Derived.Deep.RegionWith
import Derived.IntWalk
import Derived.Test.YtiioklboaookiaaGreatDoorV4
namespace Go.Proofs.YtiioklboaookiaaGreatDoor.Q
open Go.RowKit Go.Proofs.YtiioklboaookiaaGreatDoorW.PrintWords Go.Proofs.YtiioklboaookiaaGreatDoorW.PrintLast Go.Proofs.YtiioklboaookiaaGreatDoor.Hand Go.Proofs.YtiioklboaookiaaGreatDoorW.PrintMore
attribute [local go_sem] max2_int min2_int max_two min_two max_three min_three max_four min_four
set_option linter.unusedVariables false
set_option linter.unusedSimpArgs false
theorem laidOutN:laidOutB Tryz.prog=true:=by kernel_rfl
theorem arcRow:(218:TypeId)<Tryz.prog.types.size:=of_decide_eq_true (by kernel_rfl)
theorem arcWide:(match Tryz.prog.underlying 218 with|some (.array _ _)|some (.struct _)=>true|_=>false)=true:=by rw [Tryz.underlying218]
set_option maxRecDepth 100000 in
theorem arcLaw:WideMaps.KeyLaw Tryz.prog 218:=deep_law_laid laidOutN (m:=2) (by omega) arcRow (by kernel_rfl) arcWide
theorem arcKeyed:Maps.Keyed Tryz.prog 218:=Maps.Keyed.of_law arcLaw
def arcV (u v:Nat):Value:=.agg #[.int .i64 (u:Int),.int .i64 (v:Int)]
theorem wfN {x:Int} (h0 : -9223372036854775808≤x) (h1:x≤9223372036854775807):(Lit.int .i64 x).wf=true:=by
 have:(Lit.int .i64 x).wf=true ↔ -9223372036854775808≤x∧x≤9223372036854775807:=by simp [Lit.wf,IntKind.min,IntKind.max,IntKind.signed,IntKind.bits]
 exact this.2 ⟨h0,h1⟩
theorem cellsInt:Tryz.prog.cellsOf 3=1:=by kernel_rfl
theorem cellsArc:Tryz.prog.cellsOf 218=2:=by kernel_rfl
theorem keyArc (u v:Nat) (hu:u<100000) (hv:v<100000):∃ l,keyOf Tryz.prog 218 (arcV u v)=some l:=by
 have hk:Tryz.prog.keyType 218=true:=by kernel_rfl
 have hf:(arcV u v).formed Tryz.prog 218=true:=by simp [arcV,Value.formed,Tryz.underlying218,cellsArc]
 obtain ⟨m,hm⟩:∃ m,Tryz.prog.types.size+1=m+2:=⟨Tryz.prog.types.size-1,by have h0:0<Tryz.prog.types.size:=Nat.lt_of_le_of_lt (Nat.zero_le _) arcRow;omega⟩
 have wu:(Lit.int .i64 (u:Int)).wf=true:=wfN (by omega) (by omega)
 have wv:(Lit.int .i64 (v:Int)).wf=true:=wfN (by omega) (by omega)
 unfold keyOf
 rw [Tryz.underlying218]
 dsimp only
 rw [hk,hf,hm]
 simp [arcV,Program.keyLits,Tryz.underlying218,Tryz.underlying3,cellsArc,cellsInt,wu,wv,Value.cells]
noncomputable def arcL (u v:Nat):Lit:=if h:u<100000∧v<100000 then Classical.choose (keyArc u v h.1 h.2) else .nil
theorem arcKey {u v:Nat} (hu:u<100000) (hv:v<100000):keyOf Tryz.prog 218 (arcV u v)=some (arcL u v):=by
 unfold arcL;rw [dif_pos ⟨hu,hv⟩];exact Classical.choose_spec (keyArc u v hu hv)
theorem arcL_ne {u v x y:Nat} (hu:u<100000) (hv:v<100000) (hx:x<100000) (hy:y<100000) (h:¬ (u=x∧v=y)):arcL u v≠arcL x y:=fun e=>by
 have h1:=arcKey hu hv
 rw [e] at h1
 have h2:=arcKeyed.inj h1 (arcKey hx hy)
 unfold arcV at h2
 injection h2 with h2
 injection h2 with h2
 injection h2 with a1 h2
 injection h2 with a2 _
 injection a1 with _ a1
 injection a2 with _ a2
 exact h ⟨by omega,by omega⟩
def upd (M:Nat→Nat→Int) (u v:Nat) (x:Int):Nat→Nat→Int:=fun i j=>if i=u∧j=v then x else M i j
def RoomAt (b n:Nat) (M:Nat→Nat→Int) (w:World):Prop:=∃ D:DataW Unit,w.ownsMap Tryz.prog 218 (plainElem Tryz.prog 3) b n D∧Maps.IsMap D ∧
 ∀ u v,u<100000→v<100000→D.atKey (arcL u v) (.lit (.int .i64 0))=.lit (.int .i64 (M u v))
theorem infoRowN:(Tryz.prog.info? 43).map (fun i=>(i.zero,i.size,i.bytes))=some (some (.slice none 0 0),1,24):=by kernel_rfl
theorem infoIntN:(Tryz.prog.info? 3).map (fun i=>(i.zero,i.size,i.bytes))=some (some (.int .i64 0),1,8):=by kernel_rfl
theorem zeroInt (w:World):(zeroValue 3).run Tryz.prog w=.ok (.int .i64 0) w:=by kernel_rfl
theorem RoomAt.lt {b n:Nat} {M:Nat→Nat→Int} {w:World} (h:RoomAt b n M w):b<w.heap.size:=by obtain ⟨D,h1,_⟩:=h;exact h1.lt
theorem RoomAt.step {b n:Nat} {M:Nat→Nat→Int} {w w1:World} (h:RoomAt b n M w) (he:w1.heap[b]?=w.heap[b]?):RoomAt b n M w1:=by
 obtain ⟨D,⟨es,clock,hb,r⟩,h2⟩:=h
 exact ⟨D,⟨es,clock,he.trans hb,r⟩,h2⟩
theorem RoomAt.below {b n:Nat} {M:Nat→Nat→Int} {w w1:World} (h:RoomAt b n M w) (hb:Below w.heap.size w w1):RoomAt b n M w1:=h.step (hb.block b h.lt)
theorem RoomAt.start (w:World):RoomAt w.heap.size 0 (fun _ _=>0) (w.alloc (.map #[] 0)):=⟨.map [],World.ownsMap_made _ _ _ _,Maps.isMap_empty,fun _ _ _ _=>rfl⟩
set_option maxRecDepth 100000 in
theorem RoomAt.look {b n:Nat} {M:Nat→Nat→Int} {w:World} (h:RoomAt b n M w) {u v:Nat} (hu:u<100000) (hv:v<100000):(Instr.lookup 235 (.map (some b)) (arcV u v) false).run Tryz.prog w=.ok (.int .i64 (M u v)) w:=by
 obtain ⟨D,h1,h2,h3⟩:=h
 obtain ⟨c,hrun,hat,_⟩:=h1.lookup_int arcKeyed Tryz.underlying235 Tryz.underlying3 (zeroInt w) (arcKey hu hv)
 rw [h3 u v hu hv] at hat
 injection hat with hat
 injection hat with _ hat
 rw [hrun,hat]
theorem RoomAt.upd_ {b n:Nat} {M:Nat→Nat→Int} {w' : World} {D:DataW Unit} (h2:Maps.IsMap D) (h3:∀ u v,u<100000→v<100000→D.atKey (arcL u v) (.lit (.int .i64 0))=.lit (.int .i64 (M u v))) {u v:Nat} (hu:u<100000) (hv:v<100000) (x:Int)
  (h1:w'.ownsMap Tryz.prog 218 (plainElem Tryz.prog 3) b n (D.put (arcL u v) (.lit (.int .i64 x)))):RoomAt b n (upd M u v x) w':=by
 refine ⟨_,h1,h2.put _ _,fun i j hi hj=>?_⟩
 unfold upd
 by_cases e:i=u∧j=v
 ·obtain ⟨rfl,rfl⟩:=e
  rw [if_pos ⟨rfl,rfl⟩,Maps.atKey_put_same h2 (arcKeyed.key (arcKey hi hj))]
 ·rw [if_neg e,Maps.atKey_put_other (arcL_ne hi hj hu hv e),h3 i j hi hj]
theorem RoomAt.put {b n:Nat} {M:Nat→Nat→Int} {w:World} (h:RoomAt b n M w) (hn:n<maxLen) {u v:Nat} (hu:u<100000) (hv:v<100000) {x:Int} (hx:(Lit.int .i64 x).wf=true) :
  ∃ w',(Instr.mapUpdate 235 (.map (some b)) (arcV u v) (.int .i64 x)).run Tryz.prog w=.ok () w'∧RoomAt b (n+1) (upd M u v x) w'∧w.grownBy w' (some b):=by
 obtain ⟨D,h1,h2,h3⟩:=h
 obtain ⟨w',hrun,ho,hg⟩:=h1.update arcKeyed Tryz.underlying235 hn (arcKey hu hv) (plainElem_int Tryz.underlying3 hx)
 exact ⟨w',hrun,RoomAt.upd_ h2 h3 hu hv x ho,hg⟩
theorem RoomAt.entry {b n:Nat} {M:Nat→Nat→Int} {w:World} (h:RoomAt b n M w) (hn:n<maxLen) {u v:Nat} (hu:u<100000) (hv:v<100000) {x:Int} (hx:(Lit.int .i64 x).wf=true) :
  ∃ v0 st w1 w2,(Instr.mapEntry 235 (.map (some b)) (arcV u v)).run Tryz.prog w=.ok (.tuple #[v0,goInt st]) w1∧(Instr.entryStore 235 (.map (some b)) (goInt st) (.int .i64 x)).run Tryz.prog w1=.ok () w2 ∧
   RoomAt b (n+1) (upd M u v x) w2∧w.grownBy w2 (some b)∧w1.heap.size=w.heap.size∧w2.heap.size=w.heap.size:=by
 obtain ⟨D,h1,h2,h3⟩:=h
 have h1':=h1
 obtain ⟨es,clock,hb,F,hs,hD⟩:=h1
 obtain ⟨v0,st,es1,clock1,hE,_,hS⟩:=WideElems.entry_then_store arcLaw Tryz.underlying235 zeroInt hb F (arcKey hu hv)
 obtain ⟨es',clock',hst,hup⟩:=hS (ChangeMaps.setBlock w b (.map es1 clock1)) (.int .i64 x) (ChangeMaps.heap_setBlock_same hb _)
 obtain ⟨w',hrun,ho,hg⟩:=h1'.update arcKeyed Tryz.underlying235 hn (arcKey hu hv) (plainElem_int Tryz.underlying3 hx)
 rw [hrun] at hup
 injection hup with _ hup
 have e2:ChangeMaps.setBlock (ChangeMaps.setBlock w b (.map es1 clock1)) b (.map es' clock')=w':=by
  rw [hup]
  unfold ChangeMaps.setBlock
  simp
 rw [e2] at hst
 refine ⟨v0,st,_,_,hE,hst,RoomAt.upd_ h2 h3 hu hv x ho,hg,by simp [ChangeMaps.setBlock],by rw [hup];simp [ChangeMaps.setBlock]⟩
theorem RoomAt.del {b n:Nat} {M:Nat→Nat→Int} {w:World} (h:RoomAt b n M w) {u v:Nat} (hu:u<100000) (hv:v<100000) (ty:TypeId) :
  ∃ w',(Builtin.delete_ #[235,218] ty #[.map (some b),arcV u v]).run Tryz.prog w=.ok (.tuple #[]) w'∧RoomAt b n (upd M u v 0) w'∧w.grownBy w' (some b):=by
 obtain ⟨D,h1,h2,h3⟩:=h
 obtain ⟨w',hrun,ho,hg⟩:=h1.drop arcKeyed Tryz.underlying235 (arcKey hu hv) ty
 refine ⟨w',hrun,⟨_,ho,h2.del _,fun i j hi hj=>?_⟩,?_⟩
 ·unfold upd
  by_cases e:i=u∧j=v
  ·obtain ⟨rfl,rfl⟩:=e
   rw [if_pos ⟨rfl,rfl⟩,Maps.atKey_del_same]
  ·rw [if_neg e,Maps.atKey_del_other (arcL_ne hi hj hu hv e),h3 i j hi hj]
 ·exact hg.grown
end Go.Proofs.YtiioklboaookiaaGreatDoor.Q
namespace Go.Proofs.YtiioklboaookiaaGreatDoor.Q
open Go.RowKit Go.Proofs.YtiioklboaookiaaGreatDoorW.PrintWords Go.Proofs.YtiioklboaookiaaGreatDoorW.PrintLast Go.Proofs.YtiioklboaookiaaGreatDoor.Hand Go.Proofs.YtiioklboaookiaaGreatDoorW.PrintMore
attribute [local go_sem] max2_int min2_int max_two min_two max_three min_three max_four min_four
set_option linter.unusedVariables false
set_option linter.unusedSimpArgs false
def nl (L:List Nat):List Int:=L.map fun (i:Nat)=>(i:Int)
theorem nl_length (L:List Nat):(nl L).length=L.length:=by simp [nl]
theorem nl_snoc (L:List Nat) (i:Nat):nl L++[(i:Int)]=nl (L++[i]):=by simp [nl]
theorem nl_rd (L:List Nat) (i:Nat) (h:i<L.length):rd (nl L) (i:Int)=(L[i]:Int):=by
 unfold rd nl;rw [Int.toNat_natCast,List.getD_eq_getElem?_getD,List.getElem?_map,List.getElem?_eq_getElem h];rfl
structure NetAt (nb mb xb B N n:Nat) (M:Nat→Nat→Int) (adj:Nat→List Nat) (vs:Nat→Value) (w:World):Prop where
 net:w.heap[nb]?=some (.cells #[.map (some mb),.slice (some ⟨xb,0,none⟩) N N] 237 (0,0))
 room:RoomAt mb n M w
 row:∃ C:Array Value,w.heap[xb]?=some (.cells C 43 (0,0))∧∀ i,i<N→C[i]?=some (vs i)
 rows:∀ i,i<N→Kd.R (Kd.int .i64) 3 w B (fun _=>True) (vs i) (nl (adj i))
 apart:∀ i j,i<N→j<N→i≠j→∀ k,(vs i).ownBlock=some k→(vs j).ownBlock≠some k
 bn:B≤nb
 bm:B≤mb
 bx:B≤xb
structure NetKeep (B:Nat) (w w' : World):Prop where
 bel:Below B w w'
 blk:∀ (k:Nat) (c:Array Value) (t:TypeId) (fr:Nat × Nat),w.heap[k]?=some (Obj.cells c t fr)→t≠3→t≠43→w'.heap[k]?=some (Obj.cells c t fr)
theorem NetKeep.refl (B:Nat) (w:World):NetKeep B w w:=⟨Below.refl _ _,fun _ _ _ _ h _ _=>h⟩
theorem NetKeep.trans {B:Nat} {a b c:World} (h:NetKeep B a b) (k:NetKeep B b c):NetKeep B a c:=⟨h.bel.trans k.bel,fun i cs t fr hi h1 h2=>k.blk i cs t fr (h.blk i cs t fr hi h1 h2) h1 h2⟩
theorem NetKeep.of {B:Nat} {w w' : World} (h:Below w.heap.size w w') (hB:B≤w.heap.size):NetKeep B w w':=⟨h.mono hB,fun k c t fr hk _ _=>(h.block k (lt_of_some hk)).trans hk⟩
theorem NetAt.below {nb mb xb B N n:Nat} {M:Nat→Nat→Int} {adj:Nat→List Nat} {vs:Nat→Value} {w w1:World} (h:NetAt nb mb xb B N n M adj vs w) (hb:Below w.heap.size w w1):NetAt nb mb xb B N n M adj vs w1 where
 net:=(hb.block _ (lt_of_some h.net)).trans h.net
 room:=h.room.below hb
 row:=by obtain ⟨C,h1,h2⟩:=h.row;exact ⟨C,(hb.block _ (lt_of_some h1)).trans h1,h2⟩
 rows:=fun i hi=>Kd.R_below (h.rows i hi) hb
 apart:=h.apart
 bn:=h.bn
 bm:=h.bm
 bx:=h.bx
theorem NetAt.lt {nb mb xb B N n:Nat} {M:Nat→Nat→Int} {adj:Nat→List Nat} {vs:Nat→Value} {w:World} (h:NetAt nb mb xb B N n M adj vs w):nb<w.heap.size∧mb<w.heap.size∧xb<w.heap.size:=by
 obtain ⟨C,h1,_⟩:=h.row
 exact ⟨lt_of_some h.net,h.room.lt,lt_of_some h1⟩
set_option maxHeartbeats 8000000 in
set_option maxRecDepth 100000 in
theorem newNetwork_walk (N:Nat) (w:World) (hN:N≤1000) :
  Calls Tryz.prog 100 #[.int .i64 N] w fun e w'=>∃ nb mb xb,e=.returned (.pointer (some ⟨nb,0,none⟩))∧NetAt nb mb xb w.heap.size N 0 (fun _ _=>0) (fun _=>[]) (fun _=>.slice none 0 0) w'∧Below w.heap.size w w':=by
 have hmm:=@run_makeMap Tryz.prog
 have hmk:=fun w=>run_make_row' (P:=Tryz.prog) 28 43 (.slice none 0 0) 24 Tryz.underlying28 infoRowN rfl .i64 .i64 N (by omega) (by omega) w
 go_enter Tryz.func100,Tryz.ntmps100
 go_wp2_with (fail)
 go_ret
 refine ⟨w.heap.size+2,w.heap.size,w.heap.size+1,rfl,⟨?_,?_,?_,?_,?_,?_,?_,?_⟩,?_⟩
 ·exact heap_new _ _ _ (by simp)
 ·exact ((RoomAt.start w).below (below_alloc (Below.refl _ _) _)).below (below_alloc (Below.refl _ _) _)
 ·refine ⟨_,blk_alloc (heap_new _ _ _ (by simp)) _,fun i hi=>?_⟩
  rw [Array.getElem?_eq_getElem (by rw [size_madeCells];simpa using hi)]
  simp [madeCells,Nat.mod_one]
 ·exact fun i hi=>Kd.R_nil _ _ _ _ _
 ·intro i j _ _ _ k hk;simp [Value.ownBlock] at hk
 ·omega
 ·omega
 ·omega
 ·repeat (first|exact Below.refl _ _|refine below_alloc ?_ _)
def push1 (adj:Nat→List Nat) (i x:Nat):Nat→List Nat:=fun j=>if j=i then adj i++[x] else adj j
def setV (vs:Nat→Value) (i:Nat) (v:Value):Nat→Value:=fun j=>if j=i then v else vs j
theorem NetAt.grow {nb mb xb B N n:Nat} {M:Nat→Nat→Int} {adj:Nat→List Nat} {vs:Nat→Value} {W w2:World} (h:NetAt nb mb xb B N n M adj vs W) (i x:Nat) (hi:i<N) (v1:Value) (ho:Kd.R (Kd.int .i64) 3 w2 B (fun _=>True) v1 (nl (adj i)++[(x:Int)]))
  (hg:W.grownBy w2 (vs i).ownBlock) (hat:v1.ownBlock=(vs i).ownBlock∨∃ b,v1.ownBlock=some b∧W.heap.size≤b):NetAt nb mb xb B N n M (push1 adj i x) (setV vs i v1) (w2.setCell ⟨xb,i,none⟩ v1) ∧
   (∀ (k:Nat) (c:Array Value) (t:TypeId) (fr:Nat × Nat),W.heap[k]?=some (Obj.cells c t fr)→t≠3→t≠43→(w2.setCell ⟨xb,i,none⟩ v1).heap[k]?=some (Obj.cells c t fr)):=by
 obtain ⟨C,hC,hCi⟩:=h.row
 have own:∀ k,(vs i).ownBlock=some k→∃ cells,W.heap[k]?=some (.cells cells 3 (0,0)):=fun k hk=>by
  obtain ⟨_,inner,hw,_⟩:=h.rows i hi
  exact own_typed hw k hk
 have far:∀ (k:Nat) (o:Obj),W.heap[k]?=some o→(∀ c,o≠.cells c 3 (0,0))→w2.heap[k]?=some o:=fun k o hk hne=>by
  rw [hg.block k (lt_of_some hk) (fun e=>by
   obtain ⟨cells,hc⟩:=own k e.symm
   rw [hk] at hc
   exact hne _ (Option.some.inj hc))]
  exact hk
 have hC2:w2.heap[xb]?=some (.cells C 43 (0,0)):=far xb _ hC (fun c e=>by injection e with _ e;exact absurd e (by decide))
 have keep:∀ (k:Nat),k≠xb→(w2.setCell ⟨xb,i,none⟩ v1).heap[k]?=w2.heap[k]?:=fun k hk=>Below.heap_setCell w2 ⟨xb,i,none⟩ v1 k hk
 have nbx:nb≠xb:=fun e=>by
  have:=h.net
  rw [e,hC] at this
  injection this with this
  injection this with _ this
  exact absurd this (by decide)
 have mbx:mb≠xb:=fun e=>by
  obtain ⟨D,⟨es,clock,hb,_⟩,_⟩:=h.room
  rw [e,hC] at hb
  injection hb with hb
  cases hb
 refine ⟨⟨?_,?_,?_,?_,?_,h.bn,h.bm,h.bx⟩,?_⟩
 ·rw [keep nb nbx];exact far nb _ h.net (fun c e=>by injection e with _ e;exact absurd e (by decide))
 ·refine h.room.step ?_
  obtain ⟨D,⟨es,clock,hb,_⟩,_⟩:=h.room
  rw [keep mb mbx,hb]
  exact far mb _ hb (fun c e=>by cases e)
 ·refine ⟨C.setIfInBounds i v1,blk_set hC2 i v1,fun j hj=>?_⟩
  have hs:i<C.size:=lt_of_some (hCi i hi)
  rw [Array.getElem?_setIfInBounds]
  unfold setV
  by_cases e:i=j
  ·subst e;simp [hs]
  ·rw [if_neg e,if_neg (fun e'=>e e'.symm)];exact hCi j hj
 ·intro j hj
  unfold push1 setV
  by_cases e:j=i
  ·subst e
   rw [if_pos rfl,if_pos rfl,← nl_snoc]
   exact Kd.R_set ho hC2 (by simp [Kd.int,Kd.scalar]) j v1
  ·rw [if_neg e,if_neg e]
   refine Kd.R_set ?_ hC2 (by simp [Kd.int,Kd.scalar]) i v1
   exact Kd.R_mono (Kd.R_grown (ok:=fun k=>(vs j).ownBlock=some k) (by
    obtain ⟨_,r⟩:=h.rows j hj
    exact ⟨fun k hk=>hk,r.imp_ (fun _ _ hp=>hp)⟩) hg (fun k hk e'=>h.apart j i hj hi e k hk e'.symm)) (fun _ _=>trivial)
 ·intro j k hj hk hjk b hb hb'
  unfold setV at hb hb'
  have fresh:∀ q,q<N→q≠i→∀ b,v1.ownBlock=some b→(vs q).ownBlock=some b→False:=fun q hq hqi b h1 h2=>by
   rcases hat with e | ⟨b',e,hlt⟩
   ·exact h.apart q i hq hi hqi b h2 (e ▸ h1)
   ·rw [e] at h1
    injection h1 with h1
    obtain ⟨_,inner,hw,_⟩:=h.rows q hq
    have:=own_lt hw b h2
    omega
  by_cases e:j=i
  ·rw [if_pos e] at hb
   rw [if_neg (fun e'=>hjk (e.trans e'.symm))] at hb'
   exact fresh k hk (fun e'=>hjk (e.trans e'.symm)) b hb hb'
  ·rw [if_neg e] at hb
   by_cases e' : k=i
   ·rw [if_pos e'] at hb'
    exact fresh j hj e b hb' hb
   ·rw [if_neg e'] at hb'
    exact h.apart j k hj hk hjk b hb hb'
 ·intro k c t fr hk h1 h2
  rw [keep k (fun e=>by
   rw [e,hC] at hk
   injection hk with hk
   injection hk with _ hk
   exact h2 hk.symm)]
  exact far k _ hk (fun c' e=>by injection e with _ e;exact h1 e)
end Go.Proofs.YtiioklboaookiaaGreatDoor.Q
namespace Go.Proofs.YtiioklboaookiaaGreatDoor.Q
open Go.RowKit Go.Proofs.YtiioklboaookiaaGreatDoorW.PrintWords Go.Proofs.YtiioklboaookiaaGreatDoorW.PrintLast Go.Proofs.YtiioklboaookiaaGreatDoor.Hand Go.Proofs.YtiioklboaookiaaGreatDoorW.PrintMore
attribute [local go_sem] max2_int min2_int max_two min_two max_three min_three max_four min_four
set_option linter.unusedVariables false
set_option linter.unusedSimpArgs false
theorem NetAt.put {nb mb xb B N n n' : Nat} {M M' : Nat→Nat→Int} {adj:Nat→List Nat} {vs:Nat→Value} {w w1:World} (h:NetAt nb mb xb B N n M adj vs w) (hR:RoomAt mb n' M' w1) (hg:w.grownBy w1 (some mb)):NetAt nb mb xb B N n' M' adj vs w1∧NetKeep B w w1:=by
 have ismap:∀ (k:Nat) (c:Array Value) (t:TypeId) (fr:Nat × Nat),w.heap[k]?=some (Obj.cells c t fr)→some k≠some mb:=fun k c t fr hk e=>by
  injection e with e
  obtain ⟨D,⟨es,clock,hb,_⟩,_⟩:=h.room
  rw [e,hb] at hk
  injection hk with hk
  cases hk
 have far:∀ (k:Nat) (c:Array Value) (t:TypeId) (fr:Nat × Nat),w.heap[k]?=some (Obj.cells c t fr)→w1.heap[k]?=some (Obj.cells c t fr):=fun k c t fr hk=>(hg.block k (lt_of_some hk) (ismap k c t fr hk)).trans hk
 obtain ⟨C,hC,hCi⟩:=h.row
 refine ⟨⟨far _ _ _ _ h.net,hR,⟨C,far _ _ _ _ hC,hCi⟩,fun i hi=>?_,h.apart,h.bn,h.bm,h.bx⟩,⟨?_,fun k c t fr hk _ _=>far k c t fr hk⟩⟩
 ·refine Kd.R_mono (Kd.R_grown (Kd.R_bound (h.rows i hi)) hg (fun k hk=>?_)) (fun _ _=>trivial)
  obtain ⟨_,_,_,q,_,cells,hc⟩:=hk
  exact ismap k cells q (0,0) hc
 ·exact (Below.refl B w).grown hg (by have:=h.bm;have:=h.room.lt;omega) (fun k hk=>by injection hk with hk;rw [← hk];exact h.bm)
theorem NetAt.cells {nb mb xb B N n:Nat} {M:Nat→Nat→Int} {adj:Nat→List Nat} {vs:Nat→Value} {w:World} (h:NetAt nb mb xb B N n M adj vs w):w.cell? ⟨nb,0,none⟩=some (.map (some mb))∧w.cell? ⟨nb,1,none⟩=some (.slice (some ⟨xb,0,none⟩) N N):=by
 simp [World.cell?,h.net]
theorem NetAt.rowAt {nb mb xb B N n:Nat} {M:Nat→Nat→Int} {adj:Nat→List Nat} {vs:Nat→Value} {w:World} (h:NetAt nb mb xb B N n M adj vs w) (i:Nat) (hi:i<N):w.cell? ⟨xb,i,none⟩=some (vs i)∧w.frozen? ⟨xb,i,none⟩=false:=by
 obtain ⟨C,h1,h2⟩:=h.row
 simp [World.cell?,World.frozen?,h1,h2 i hi]
theorem NetAt.grownCells {nb mb xb B N n:Nat} {M:Nat→Nat→Int} {adj:Nat→List Nat} {vs:Nat→Value} {W w2:World} (h:NetAt nb mb xb B N n M adj vs W) (i:Nat) (hi:i<N) (hg:W.grownBy w2 (vs i).ownBlock) :
  w2.cell? ⟨nb,1,none⟩=some (.slice (some ⟨xb,0,none⟩) N N)∧(∀ j,j<N→w2.cell? ⟨xb,j,none⟩=some (vs j)∧w2.frozen? ⟨xb,j,none⟩=false):=by
 have far:∀ (k:Nat) (c:Array Value) (t:TypeId) (fr:Nat × Nat),W.heap[k]?=some (Obj.cells c t fr)→t≠3→w2.heap[k]?=some (Obj.cells c t fr):=fun k c t fr hk ht=>by
  rw [hg.block k (lt_of_some hk) (fun e=>by
   obtain ⟨_,inner,hw,_⟩:=h.rows i hi
   obtain ⟨cells,hc⟩:=own_typed hw k e.symm
   rw [hk] at hc
   injection hc with hc
   injection hc with _ hc
   exact ht hc)]
  exact hk
 obtain ⟨C,hC,hCi⟩:=h.row
 have h1:=far _ _ _ _ h.net (by decide)
 have h2:=far _ _ _ _ hC (by decide)
 exact ⟨by simp [World.cell?,h1],fun j hj=>by simp [World.cell?,World.frozen?,h2,hCi j hj]⟩
theorem NetAt.base {nb mb xb B N n:Nat} {M:Nat→Nat→Int} {adj:Nat→List Nat} {vs:Nat→Value} {w:World} (h:NetAt nb mb xb B N n M adj vs w):B≤w.heap.size:=by have:=h.bm;have:=h.room.lt;omega
set_option maxHeartbeats 8000000 in
set_option maxRecDepth 100000 in
theorem add_walk (nb mb xb B N n:Nat) (M:Nat→Nat→Int) (adj:Nat→List Nat) (vs:Nat→Value) (w:World) (u v:Nat) (x:Int) (h:NetAt nb mb xb B N n M adj vs w) (hN:N≤1000) (hn:n<1000000000) (hu:u<N) (hv:v<N) (hx:(Lit.int .i64 x).wf=true) (hadj:∀ i,(adj i).length<1000000) :
  Calls Tryz.prog 101 #[.pointer (some ⟨nb,0,none⟩),.int .i64 u,.int .i64 v,.int .i64 x] w fun e w'=>e=.returned (.tuple #[])∧(∃ vs',NetAt nb mb xb B N (n+1) (upd M u v x) (push1 (push1 adj u v) v u) vs' w')∧NetKeep B w w':=by
 obtain ⟨w1,hrun,hR1,hg1⟩:=h.room.put (u:=u) (v:=v) (x:=x) (by unfold maxLen;omega) (by omega) (by omega) hx
 unfold arcV at hrun
 obtain ⟨hn1,hk1⟩:=h.put hR1 hg1
 have HN1:=hid hn1
 have HK1:=hid hk1
 have HADJ:=hid hadj
 have q0:w.cell? ⟨nb,0,none⟩=some (.map (some mb)):=h.cells.1
 have C1:=hid (show w1.drew.cell? ⟨nb,1,none⟩=some (.slice (some ⟨xb,0,none⟩) N N) from hn1.cells.2)
 have C2:=hid (show w1.drew.cell? ⟨xb,u,none⟩=some (vs u) from (hn1.rowAt u hu).1)
 have HL1:=hid hn1.lt
 have u0:(0:Int)≤(u:Int):=by omega
 have u1:(u:Int)<(N:Int):=by omega
 have v0:(0:Int)≤(v:Int):=by omega
 have v1_:(v:Int)<(N:Int):=by omega
 clear h hR1 hg1 hn1 hk1
 go_enter Tryz.func101,Tryz.ntmps101
 go_wp2_with (fail)
 refine start_ (n:=17) (S:=fun w'=>w'.cell? ⟨nb,1,none⟩=some (.slice (some ⟨xb,0,none⟩) N N)∧w'.cell? ⟨xb,u,none⟩=some (vs u)) (ds:=[16]) #[false,false,false,false,false,false,false,false,false,false,false,false,false,false,false,false,false] (by kernel_rfl) rfl rfl ⟨C1.out,C2.out⟩ (fun hHeld=>?_)
 refine pure_ (i:=0) (N:=some 16) (v:=?_) (a':=?_) #[true,false,false,false,false,false,false,false,false,false,false,false,false,false,false,false,false] rfl rfl (by kernel_rfl) (fun _ _ _ h=>h) (Or.inl ⟨by rfl,?_⟩) ?_ ?_
 rotate_left
 ·intro w'
  go_simp
  with_reducible rfl
 rotate_left
 ·simp only [Act.put,sp__,i64_w,i32_w]
  rfl
 refine pure_ (i:=1) (N:=some 17) (v:=?_) (a':=?_) #[true,true,false,false,false,false,false,false,false,false,false,false,false,false,false,false,false] rfl rfl (by kernel_rfl) (fun _ _ _ h=>h) (Or.inl ⟨by rfl,?_⟩) ?_ ?_
 rotate_left
 ·intro w'
  go_simp
  with_reducible rfl
 rotate_left
 ·simp only [Act.put,sp__,i64_w,i32_w]
  rfl
 refine pure_ (i:=2) (N:=some 18) (v:=?_) (a':=?_) #[true,true,true,false,false,false,false,false,false,false,false,false,false,false,false,false,false] rfl rfl (by kernel_rfl) (fun _ _ _ h=>h) (Or.inl ⟨by rfl,?_⟩) ?_ ?_
 rotate_left
 ·intro w'
  go_simp
  with_reducible rfl
 rotate_left
 ·simp only [Act.put,sp__,i64_w,i32_w]
  rfl
 refine pure_ (i:=4) (N:=some 20) (v:=?_) (a':=?_) #[true,true,true,false,true,false,false,false,false,false,false,false,false,false,false,false,false] rfl rfl (by kernel_rfl) (fun _ _ _ h=>h) (Or.inl ⟨by rfl,?_⟩) ?_ ?_
 rotate_left
 ·intro w'
  go_simp
  with_reducible rfl
 rotate_left
 ·simp only [Act.put,sp__,i64_w,i32_w]
  rfl
 refine pure_ (i:=5) (N:=some 21) (v:=?_) (a':=?_) #[true,true,true,false,true,true,false,false,false,false,false,false,false,false,false,false,false] rfl rfl (by kernel_rfl) (fun _ _ _ h=>h) (Or.inl ⟨by rfl,?_⟩) ?_ ?_
 rotate_left
 ·intro w'
  go_simp
  with_reducible rfl
 rotate_left
 ·simp only [Act.put,sp__,i64_w,i32_w]
  rfl
 refine pure_ (i:=6) (N:=some 22) (v:=?_) (a':=?_) #[true,true,true,false,true,true,true,false,false,false,false,false,false,false,false,false,false] rfl rfl (by kernel_rfl) (fun _ _ _ h=>h) (Or.inl ⟨by rfl,?_⟩) ?_ ?_
 rotate_left
 ·intro w'
  go_simp
  with_reducible rfl
 rotate_left
 ·simp only [Act.put,sp__,i64_w,i32_w]
  rfl
 refine pure_ (i:=7) (N:=some 23) (v:=?_) (a':=?_) #[true,true,true,false,true,true,true,true,false,false,false,false,false,false,false,false,false] rfl rfl (by kernel_rfl) (fun _ _ _ h=>h) (Or.inl ⟨by rfl,?_⟩) ?_ ?_
 rotate_left
 ·intro w'
  go_simp
  with_reducible rfl
 rotate_left
 ·simp only [Act.put,sp__,i64_w,i32_w]
  rfl
 refine pure_ (i:=9) (N:=some 25) (v:=?_) (a':=?_) #[true,true,true,false,true,true,true,true,false,true,false,false,false,false,false,false,false] rfl rfl (by kernel_rfl) (fun _ _ _ h=>h) (Or.inl ⟨by rfl,?_⟩) ?_ ?_
 rotate_left
 ·intro w'
  go_simp
  with_reducible rfl
 rotate_left
 ·simp only [Act.put,sp__,i64_w,i32_w]
  rfl
 refine pure_ (i:=12) (N:=some 28) (v:=?_) (a':=?_) #[true,true,true,false,true,true,true,true,false,true,false,false,true,false,false,false,false] rfl rfl (by kernel_rfl) (fun _ _ _ h=>h) (Or.inl ⟨by rfl,?_⟩) ?_ ?_
 rotate_left
 ·intro w'
  go_simp
  with_reducible rfl
 rotate_left
 ·simp only [Act.put,sp__,i64_w,i32_w]
  rfl
 refine take_ (i:=3) (N:=some 19) (v:=?_) (a':=?_) #[true,true,true,true,true,true,true,true,false,true,false,false,true,false,false,false,false] rfl rfl (by kernel_rfl) (fun _ _ _ h=>h) (Or.inl ⟨by rfl,?_⟩) hHeld ?_ ?_
 rotate_left
 ·rintro w' ⟨s0,s1⟩
  go_simp
  with_reducible rfl
 rotate_left
 ·simp only [Act.put,sp__,i64_w,i32_w]
  rfl
 refine take_ (i:=8) (N:=some 24) (v:=?_) (a':=?_) #[true,true,true,true,true,true,true,true,true,true,false,false,true,false,false,false,false] rfl rfl (by kernel_rfl) (fun _ _ _ h=>h) (Or.inl ⟨by rfl,?_⟩) hHeld ?_ ?_
 rotate_left
 ·rintro w' ⟨s0,s1⟩
  go_simp
  with_reducible rfl
 rotate_left
 ·simp only [Act.put,sp__,i64_w,i32_w]
  rfl
 refine pure_ (i:=10) (N:=some 26) (v:=?_) (a':=?_) #[true,true,true,true,true,true,true,true,true,true,true,false,true,false,false,false,false] rfl rfl (by kernel_rfl) (fun _ _ _ h=>h) (Or.inl ⟨by rfl,?_⟩) ?_ ?_
 rotate_left
 ·intro w'
  go_simp
  with_reducible rfl
 rotate_left
 ·simp only [Act.put,sp__,i64_w,i32_w]
  rfl
 refine take_ (i:=11) (N:=some 27) (v:=?_) (a':=?_) #[true,true,true,true,true,true,true,true,true,true,true,true,true,false,false,false,false] rfl rfl (by kernel_rfl) (fun _ _ _ h=>h) (Or.inl ⟨by rfl,?_⟩) hHeld ?_ ?_
 rotate_left
 ·rintro w' ⟨s0,s1⟩
  go_simp
  with_reducible rfl
 rotate_left
 ·simp only [Act.put,sp__,i64_w,i32_w]
  rfl
 refine one_ (i:=13) (N:=some 29) #[true,true,true,true,true,true,true,true,true,true,true,true,true,true,false,false,false] rfl rfl (by kernel_rfl) (by decide) (fun K hK=>?_)
 refine value_ (w1:=?_) (v:=?_) (by rfl) rfl ?_ ?_
 rotate_left 2
 ·go_simp
  first|(refine ⟨?_,?_⟩ <;> rfl)|rfl
 refine hK.out _ _ ⟨by rw [World.cell?_drew,World.cell?_alloc_old _ _ _ (Nat.ne_of_lt HL1.out.1)];exact C1.out,by rw [World.cell?_drew,World.cell?_alloc_old _ _ _ (Nat.ne_of_lt HL1.out.2.2)];exact C2.out⟩ (fun hHeld=>?_)
 clear hK K
 refine norm_ (a':=?_) ?_ ?_
 rotate_left
 ·show Act.put _ (some 29) _=_
  simp only [Act.put,sp__,i64_w,i32_w]
  rfl
 refine one_ (i:=14) (N:=some 30) #[true,true,true,true,true,true,true,true,true,true,true,true,true,true,true,false,false] rfl rfl (by kernel_rfl) (by decide) (fun K hK=>?_)
 refine Kd.R_append_step (Kd.int .i64) (w0:=w1.drew) B (by rfl) (.tmp 27) (.tmp 29) 43 3 (.int .i64 0) 8 rfl Tryz.underlying43 infoIntN rfl (by decide) (by omega) (vs u) (nl (adj u)) (v:Int) [.int .i64 (v:Int)] (fun _=>True) (fun _=>False) rfl rfl rfl (fun _ hk=>hk.elim) (fun _ _=>trivial) (Kd.R_drew (HN1.out.rows u hu)) (Below.refl _ _) (HN1.out.base) ?aL ?_
 (case aL=>rw [nl_length];have:=HADJ.out u;omega)
 intro v1 w2 ho hb hg hat
 obtain ⟨A1,c1,eR⟩:=Kd.R_slice ho
 obtain ⟨L1,hL1⟩:∃ L1,L1=(nl (adj u)++[(v:Int)]).length:=⟨_,rfl⟩
 rw [← hL1] at eR
 clear hL1
 subst eR
 have HO:=Aside0.mk ho
 have HG:=Aside0.mk hg
 have HBb:=Aside0.mk hb
 have HAT:=Aside0.mk hat
 have g0:=(NetAt.grownCells (HN1.out.below (below_drew1 (Below.refl _ _))) u hu HG.out).1
 have g1:=((NetAt.grownCells (HN1.out.below (below_drew1 (Below.refl _ _))) u hu HG.out).2 u hu).1
 have gf:=((NetAt.grownCells (HN1.out.below (below_drew1 (Below.refl _ _))) u hu HG.out).2 u hu).2
 clear ho hb hg hat
 refine hK.out _ _ ⟨g0,g1⟩ (fun hHeld=>?_)
 clear hK K
 refine norm_ (a':=?_) ?_ ?_
 rotate_left
 ·show Act.put _ (some 30) _=_
  simp only [Act.put,sp__,i64_w,i32_w]
  rfl
 refine pure_ (i:=15) (N:=some 31) (v:=?_) (a':=?_) #[true,true,true,true,true,true,true,true,true,true,true,true,true,true,true,true,false] rfl rfl (by kernel_rfl) (fun _ _ _ h=>h) (Or.inl ⟨by rfl,?_⟩) ?_ ?_
 rotate_left
 ·intro w'
  go_simp
  with_reducible rfl
 rotate_left
 ·simp only [Act.put,sp__,i64_w,i32_w]
  rfl
 refine last_ (i:=16) (N:=none) #[true,true,true,true,true,true,true,true,true,true,true,true,true,true,true,true,true] rfl rfl (by kernel_rfl) (by decide) (fun K hK=>?_)
 refine skip_ (w1:=?_) (by rfl) rfl ?_ ?_
 rotate_left
 ·go_simp
  rfl
 refine hK.out _ _ ?_
 clear hK K
 refine done_ (by kernel_rfl) ?_
 obtain ⟨hn3,hk3⟩:=NetAt.grow (HN1.out.below (below_drew1 (Below.refl _ _))) u v hu (.slice A1 L1 c1) HO.out HG.out HAT.out
 have hbel3:=Below.setCell (p:=⟨xb,u,none⟩) HBb.out HN1.out.bx (.slice A1 L1 c1)
 obtain ⟨w3,hw3⟩:∃ w3,w3=w2.setCell ⟨xb,u,none⟩ (.slice A1 L1 c1):=⟨_,rfl⟩
 rw [← hw3] at hn3 hk3 hbel3 ⊢
 obtain ⟨vs3,hvs3⟩:∃ vs3,vs3=setV vs u (.slice A1 L1 c1):=⟨_,rfl⟩
 rw [← hvs3] at hn3
 clear hvs3 hw3 HO HG HBb HAT g0 g1 gf C1 C2
 have HN3:=hid hn3
 have HK3:Hid (NetKeep B w w3):=(HK1.out.trans (NetKeep.of (below_drew1 (Below.refl _ _)) HN1.out.base)).trans ⟨hbel3,hk3⟩
 have C1:=hid (show w3.drew.cell? ⟨nb,1,none⟩=some (.slice (some ⟨xb,0,none⟩) N N) from hn3.cells.2)
 have C2:=hid (show w3.drew.cell? ⟨xb,v,none⟩=some (vs3 v) from (hn3.rowAt v hv).1)
 have HL3:=hid hn3.lt
 have hadj3:((push1 adj u v) v).length<1000001:=by
  unfold push1
  split
  ·rw [List.length_append];have:=HADJ.out u;simp;omega
  ·have:=HADJ.out v;omega
 clear hn3 hk3 hbel3
 (try go_wp2)
 refine start_ (n:=17) (S:=fun w'=>w'.cell? ⟨nb,1,none⟩=some (.slice (some ⟨xb,0,none⟩) N N)∧w'.cell? ⟨xb,v,none⟩=some (vs3 v)) (ds:=[16]) #[false,false,false,false,false,false,false,false,false,false,false,false,false,false,false,false,false] (by kernel_rfl) rfl rfl ⟨C1.out,C2.out⟩ (fun hHeld=>?_)
 refine pure_ (i:=0) (N:=some 32) (v:=?_) (a':=?_) #[true,false,false,false,false,false,false,false,false,false,false,false,false,false,false,false,false] rfl rfl (by kernel_rfl) (fun _ _ _ h=>h) (Or.inl ⟨by rfl,?_⟩) ?_ ?_
 rotate_left
 ·intro w'
  go_simp
  with_reducible rfl
 rotate_left
 ·simp only [Act.put,sp__,i64_w,i32_w]
  rfl
 refine pure_ (i:=1) (N:=some 33) (v:=?_) (a':=?_) #[true,true,false,false,false,false,false,false,false,false,false,false,false,false,false,false,false] rfl rfl (by kernel_rfl) (fun _ _ _ h=>h) (Or.inl ⟨by rfl,?_⟩) ?_ ?_
 rotate_left
 ·intro w'
  go_simp
  with_reducible rfl
 rotate_left
 ·simp only [Act.put,sp__,i64_w,i32_w]
  rfl
 refine pure_ (i:=2) (N:=some 34) (v:=?_) (a':=?_) #[true,true,true,false,false,false,false,false,false,false,false,false,false,false,false,false,false] rfl rfl (by kernel_rfl) (fun _ _ _ h=>h) (Or.inl ⟨by rfl,?_⟩) ?_ ?_
 rotate_left
 ·intro w'
  go_simp
  with_reducible rfl
 rotate_left
 ·simp only [Act.put,sp__,i64_w,i32_w]
  rfl
 refine pure_ (i:=4) (N:=some 36) (v:=?_) (a':=?_) #[true,true,true,false,true,false,false,false,false,false,false,false,false,false,false,false,false] rfl rfl (by kernel_rfl) (fun _ _ _ h=>h) (Or.inl ⟨by rfl,?_⟩) ?_ ?_
 rotate_left
 ·intro w'
  go_simp
  with_reducible rfl
 rotate_left
 ·simp only [Act.put,sp__,i64_w,i32_w]
  rfl
 refine pure_ (i:=5) (N:=some 37) (v:=?_) (a':=?_) #[true,true,true,false,true,true,false,false,false,false,false,false,false,false,false,false,false] rfl rfl (by kernel_rfl) (fun _ _ _ h=>h) (Or.inl ⟨by rfl,?_⟩) ?_ ?_
 rotate_left
 ·intro w'
  go_simp
  with_reducible rfl
 rotate_left
 ·simp only [Act.put,sp__,i64_w,i32_w]
  rfl
 refine pure_ (i:=6) (N:=some 38) (v:=?_) (a':=?_) #[true,true,true,false,true,true,true,false,false,false,false,false,false,false,false,false,false] rfl rfl (by kernel_rfl) (fun _ _ _ h=>h) (Or.inl ⟨by rfl,?_⟩) ?_ ?_
 rotate_left
 ·intro w'
  go_simp
  with_reducible rfl
 rotate_left
 ·simp only [Act.put,sp__,i64_w,i32_w]
  rfl
 refine pure_ (i:=7) (N:=some 39) (v:=?_) (a':=?_) #[true,true,true,false,true,true,true,true,false,false,false,false,false,false,false,false,false] rfl rfl (by kernel_rfl) (fun _ _ _ h=>h) (Or.inl ⟨by rfl,?_⟩) ?_ ?_
 rotate_left
 ·intro w'
  go_simp
  with_reducible rfl
 rotate_left
 ·simp only [Act.put,sp__,i64_w,i32_w]
  rfl
 refine pure_ (i:=9) (N:=some 41) (v:=?_) (a':=?_) #[true,true,true,false,true,true,true,true,false,true,false,false,false,false,false,false,false] rfl rfl (by kernel_rfl) (fun _ _ _ h=>h) (Or.inl ⟨by rfl,?_⟩) ?_ ?_
 rotate_left
 ·intro w'
  go_simp
  with_reducible rfl
 rotate_left
 ·simp only [Act.put,sp__,i64_w,i32_w]
  rfl
 refine pure_ (i:=12) (N:=some 44) (v:=?_) (a':=?_) #[true,true,true,false,true,true,true,true,false,true,false,false,true,false,false,false,false] rfl rfl (by kernel_rfl) (fun _ _ _ h=>h) (Or.inl ⟨by rfl,?_⟩) ?_ ?_
 rotate_left
 ·intro w'
  go_simp
  with_reducible rfl
 rotate_left
 ·simp only [Act.put,sp__,i64_w,i32_w]
  rfl
 refine take_ (i:=3) (N:=some 35) (v:=?_) (a':=?_) #[true,true,true,true,true,true,true,true,false,true,false,false,true,false,false,false,false] rfl rfl (by kernel_rfl) (fun _ _ _ h=>h) (Or.inl ⟨by rfl,?_⟩) hHeld ?_ ?_
 rotate_left
 ·rintro w' ⟨s0,s1⟩
  go_simp
  with_reducible rfl
 rotate_left
 ·simp only [Act.put,sp__,i64_w,i32_w]
  rfl
 refine take_ (i:=8) (N:=some 40) (v:=?_) (a':=?_) #[true,true,true,true,true,true,true,true,true,true,false,false,true,false,false,false,false] rfl rfl (by kernel_rfl) (fun _ _ _ h=>h) (Or.inl ⟨by rfl,?_⟩) hHeld ?_ ?_
 rotate_left
 ·rintro w' ⟨s0,s1⟩
  go_simp
  with_reducible rfl
 rotate_left
 ·simp only [Act.put,sp__,i64_w,i32_w]
  rfl
 refine pure_ (i:=10) (N:=some 42) (v:=?_) (a':=?_) #[true,true,true,true,true,true,true,true,true,true,true,false,true,false,false,false,false] rfl rfl (by kernel_rfl) (fun _ _ _ h=>h) (Or.inl ⟨by rfl,?_⟩) ?_ ?_
 rotate_left
 ·intro w'
  go_simp
  with_reducible rfl
 rotate_left
 ·simp only [Act.put,sp__,i64_w,i32_w]
  rfl
 refine take_ (i:=11) (N:=some 43) (v:=?_) (a':=?_) #[true,true,true,true,true,true,true,true,true,true,true,true,true,false,false,false,false] rfl rfl (by kernel_rfl) (fun _ _ _ h=>h) (Or.inl ⟨by rfl,?_⟩) hHeld ?_ ?_
 rotate_left
 ·rintro w' ⟨s0,s1⟩
  go_simp
  with_reducible rfl
 rotate_left
 ·simp only [Act.put,sp__,i64_w,i32_w]
  rfl
 refine one_ (i:=13) (N:=some 45) #[true,true,true,true,true,true,true,true,true,true,true,true,true,true,false,false,false] rfl rfl (by kernel_rfl) (by decide) (fun K hK=>?_)
 refine value_ (w1:=?_) (v:=?_) (by rfl) rfl ?_ ?_
 rotate_left 2
 ·go_simp
  first|(refine ⟨?_,?_⟩ <;> rfl)|rfl
 refine hK.out _ _ ⟨by rw [World.cell?_drew,World.cell?_alloc_old _ _ _ (Nat.ne_of_lt HL3.out.1)];exact C1.out,by rw [World.cell?_drew,World.cell?_alloc_old _ _ _ (Nat.ne_of_lt HL3.out.2.2)];exact C2.out⟩ (fun hHeld=>?_)
 clear hK K
 refine norm_ (a':=?_) ?_ ?_
 rotate_left
 ·show Act.put _ (some 45) _=_
  simp only [Act.put,sp__,i64_w,i32_w]
  rfl
 refine one_ (i:=14) (N:=some 46) #[true,true,true,true,true,true,true,true,true,true,true,true,true,true,true,false,false] rfl rfl (by kernel_rfl) (by decide) (fun K hK=>?_)
 refine Kd.R_append_step (Kd.int .i64) (w0:=w3.drew) B (by rfl) (.tmp 43) (.tmp 45) 43 3 (.int .i64 0) 8 rfl Tryz.underlying43 infoIntN rfl (by decide) (by omega) (vs3 v) (nl ((push1 adj u v) v)) (u:Int) [.int .i64 (u:Int)] (fun _=>True) (fun _=>False) rfl rfl rfl (fun _ hk=>hk.elim) (fun _ _=>trivial) (Kd.R_drew (HN3.out.rows v hv)) (Below.refl _ _) (HN3.out.base) ?aL ?_
 (case aL=>rw [nl_length];have:=hadj3;omega)
 intro v1 w4 ho hb hg hat
 obtain ⟨A1,c1,eR⟩:=Kd.R_slice ho
 obtain ⟨L1,hL1⟩:∃ L1,L1=(nl ((push1 adj u v) v)++[(u:Int)]).length:=⟨_,rfl⟩
 rw [← hL1] at eR
 clear hL1
 subst eR
 have HO:=Aside0.mk ho
 have HG:=Aside0.mk hg
 have HBb:=Aside0.mk hb
 have HAT:=Aside0.mk hat
 have g0:=(NetAt.grownCells (HN3.out.below (below_drew1 (Below.refl _ _))) v hv HG.out).1
 have g1:=((NetAt.grownCells (HN3.out.below (below_drew1 (Below.refl _ _))) v hv HG.out).2 v hv).1
 have gf:=((NetAt.grownCells (HN3.out.below (below_drew1 (Below.refl _ _))) v hv HG.out).2 v hv).2
 clear ho hb hg hat
 refine hK.out _ _ ⟨g0,g1⟩ (fun hHeld=>?_)
 clear hK K
 refine norm_ (a':=?_) ?_ ?_
 rotate_left
 ·show Act.put _ (some 46) _=_
  simp only [Act.put,sp__,i64_w,i32_w]
  rfl
 refine pure_ (i:=15) (N:=some 47) (v:=?_) (a':=?_) #[true,true,true,true,true,true,true,true,true,true,true,true,true,true,true,true,false] rfl rfl (by kernel_rfl) (fun _ _ _ h=>h) (Or.inl ⟨by rfl,?_⟩) ?_ ?_
 rotate_left
 ·intro w'
  go_simp
  with_reducible rfl
 rotate_left
 ·simp only [Act.put,sp__,i64_w,i32_w]
  rfl
 refine last_ (i:=16) (N:=none) #[true,true,true,true,true,true,true,true,true,true,true,true,true,true,true,true,true] rfl rfl (by kernel_rfl) (by decide) (fun K hK=>?_)
 refine skip_ (w1:=?_) (by rfl) rfl ?_ ?_
 rotate_left
 ·go_simp
  rfl
 refine hK.out _ _ ?_
 clear hK K
 refine done_ (by kernel_rfl) ?_
 obtain ⟨hn5,hk5⟩:=NetAt.grow (HN3.out.below (below_drew1 (Below.refl _ _))) v u hv (.slice A1 L1 c1) HO.out HG.out HAT.out
 have hbel5:=Below.setCell (p:=⟨xb,v,none⟩) HBb.out HN3.out.bx (.slice A1 L1 c1)
 (try go_wp2)
 go_end0
 exact ⟨rfl,⟨_,hn5⟩,(HK3.out.trans (NetKeep.of (below_drew1 (Below.refl _ _)) HN3.out.base)).trans ⟨hbel5,hk5⟩⟩
end Go.Proofs.YtiioklboaookiaaGreatDoor.Q
namespace Go.Proofs.YtiioklboaookiaaGreatDoor.Q
open Go.RowKit Go.Proofs.YtiioklboaookiaaGreatDoorW.PrintWords Go.Proofs.YtiioklboaookiaaGreatDoorW.PrintLast Go.Proofs.YtiioklboaookiaaGreatDoor.Hand Go.Proofs.YtiioklboaookiaaGreatDoorW.PrintMore
attribute [local go_sem] max2_int min2_int max_two min_two max_three min_three max_four min_four
set_option linter.unusedVariables false
set_option linter.unusedSimpArgs false
def WayAt (b N:Nat) (way:Nat→Int × Int) (w:World):Prop :=
 (∀ i,i<N→w.cell? ⟨b,i*2,none⟩=some (.int .i64 (way i).1)∧w.cell? ⟨b,i*2+1,none⟩=some (.int .i64 (way i).2))∧(∀ j,w.frozen? ⟨b,j,none⟩=false)∧b<w.heap.size
theorem WayAt.heap {b N:Nat} {way:Nat→Int × Int} {w w1:World} (h:WayAt b N way w) (he:w1.heap[b]?=w.heap[b]?) (hs:b<w1.heap.size):WayAt b N way w1:=by
 obtain ⟨h1,h2,h3⟩:=h
 have hc:∀ j,w1.cell? ⟨b,j,none⟩=w.cell? ⟨b,j,none⟩:=fun j=>by unfold World.cell?;rw [he]
 have hf:∀ j,w1.frozen? ⟨b,j,none⟩=w.frozen? ⟨b,j,none⟩:=fun j=>by unfold World.frozen?;rw [he]
 exact ⟨fun i hi=>by rw [hc,hc];exact h1 i hi,fun j=>by rw [hf];exact h2 j,hs⟩
theorem WayAt.below {b N:Nat} {way:Nat→Int × Int} {w w1:World} (h:WayAt b N way w) (hb:Below w.heap.size w w1):WayAt b N way w1:=h.heap (hb.block b h.2.2) (Nat.lt_of_lt_of_le h.2.2 hb.size)
def setW (way:Nat→Int × Int) (i:Nat) (a:Int × Int):Nat→Int × Int:=fun j=>if j=i then a else way j
theorem WayAt.put {b N:Nat} {way:Nat→Int × Int} {w:World} (h:WayAt b N way w) (i:Nat) (hi:i<N) (a:Int × Int) :
  WayAt b N (setW way i a) ((w.setCell ⟨b,i*2,none⟩ (.int .i64 a.1)).setCell ⟨b,i*2+1,none⟩ (.int .i64 a.2)):=by
 have ne:∀ {i j:Nat},i≠j→(⟨b,i,none⟩:Addr)≠⟨b,j,none⟩:=fun h e=>h (by injection e)
 obtain ⟨h1,h2,h3⟩:=h
 obtain ⟨g1,g2⟩:=h1 i hi
 refine ⟨fun j hj=>?_,fun j=>by simp [h2],by simpa using h3⟩
 obtain ⟨k1,k2⟩:=h1 j hj
 unfold setW
 by_cases e:j=i
 ·subst e
  refine ⟨?_,?_⟩
  ·rw [World.cell?_setCell_other _ _ _ _ (ne (by omega)),World.cell?_setCell_same _ _ _ g1];simp
  ·rw [World.cell?_setCell_same _ _ _ (u:=.int .i64 (way j).2) (by rw [World.cell?_setCell_other _ _ _ _ (ne (by omega))];exact g2)];simp
 ·refine ⟨?_,?_⟩
  ·rw [World.cell?_setCell_other _ _ _ _ (ne (by omega)),World.cell?_setCell_other _ _ _ _ (ne (by omega)),k1,if_neg e]
  ·rw [World.cell?_setCell_other _ _ _ _ (ne (by omega)),World.cell?_setCell_other _ _ _ _ (ne (by omega)),k2,if_neg e]
theorem Q_one (w:World) (x:Int) (base:Nat) (hb:base≤w.heap.size):Kd.Q (Kd.int .i64) 3 (w.alloc (.cells #[.int .i64 x] 3)) base (fun _=>True) (.slice (some ⟨w.heap.size,0,none⟩) 1 1) [x]:=by
 refine Kd.Q_of_R (Kd.R_of_own (h1:=fun _=>rfl) ?_ (fun _ _=>trivial))
 exact ⟨rfl,.inr ⟨w.heap.size,1,#[.int .i64 x],rfl,hb,blk_new _ _,by simp,by decide,by simp,by simp [encs]⟩⟩
theorem Q_wayset {w:World} {b:Nat} {v:Value} {xs:List Int} (h:Kd.Q (Kd.int .i64) 3 w (b+1) (fun _=>True) v xs) (i:Nat) (u:Value):Kd.Q (Kd.int .i64) 3 (w.setCell ⟨b,i,none⟩ u) (b+1) (fun _=>True) v xs :=
 Kd.Q_mono (Kd.Q_far (p:=⟨b,i,none⟩) (Kd.Q_bound h) (fun k hk=>by have:=hk.2.1;show k≠b;omega) u) (fun _ _=>trivial)
theorem RoomAt.lookN {b n:Nat} {M:Nat→Nat→Int} {w:World} (h:RoomAt b n M w) {u v:Nat} (hu:u<100000) (hv:v<100000) (m:Nat):(Instr.lookup 235 (.map (some b)) (.agg #[.int .i64 (u:Int),.int .i64 (v:Int)]) false).run Tryz.prog (w.drewN m)=.ok (.int .i64 (M u v)) (w.drewN m) :=
 (h.below (pw_below_drewN (Below.refl _ _) m)).look hu hv
theorem WayAt.pushed {b N:Nat} {way:Nat→Int × Int} {v:Value} {xs:List Int} {w w1:World} (h:WayAt b N way w) (hq:Kd.Q (Kd.int .i64) 3 w (b+1) (fun _=>True) v xs) (hg:w.grownBy w1 v.ownBlock):WayAt b N way w1:=by
 have he:w1.heap[b]?=w.heap[b]?:=hg.block b h.2.2 (fun e=>by have:=Kd.Q_base hq b e.symm;omega)
 exact h.heap he (lt_of_some (he.trans (Array.getElem?_eq_getElem h.2.2)))
theorem eqArc (a b c d:Int) (w:World):(binOp .eql 218 (.agg #[.int .i64 a,.int .i64 b]) (.agg #[.int .i64 c,.int .i64 d])).run Tryz.prog w=.ok (.bool (decide (a=c∧b=d))) w:=by
 have hf : (Tryz.prog.fieldsOf 218).toList.map (fun f => (f.name, f.type, f.offset)) = [("from", 3, 0), ("to", 3, 1)] := by kernel_rfl
 have hu:Tryz.prog.underlying 218=some (.struct (Tryz.prog.fieldsOf 218)):=by unfold Program.fieldsOf;rw [Tryz.underlying218]
 have hp:Tryz.prog.stoodInHeld 218=false:=by kernel_rfl
 have hi:=Tryz.underlying3
 rw [run_eql_struct,run_equalIn_agg _ _ _ _ _ hu hp]
 clear hu hp
 generalize (Tryz.prog.fieldsOf 218).toList=fs at hf ⊢
 obtain ⟨f1,f2,rfl⟩:∃ f1 f2,fs=[f1,f2]:=by
  have hl:=congrArg List.length hf
  rw [List.length_map] at hl
  match fs,hl with
  | [f1,f2],_=>exact ⟨f1,f2,rfl⟩
 simp only [List.map_cons,List.map_nil,List.cons.injEq,Prod.mk.injEq,and_true] at hf
 obtain ⟨⟨n1,t1,o1⟩,n2,t2,o2⟩:=hf
 have p1:∀ (x y:Int) (w:World),(part 3 #[.int .i64 x,.int .i64 y] 0).run Tryz.prog w=.ok (.int .i64 x) w:=fun x y w=>by simp [part,sizeOf,typeInfo,hi]
 have p2:∀ (x y:Int) (w:World),(part 3 #[.int .i64 x,.int .i64 y] 1).run Tryz.prog w=.ok (.int .i64 y) w:=fun x y w=>by simp [part,sizeOf,typeInfo,hi]
 have q1:∀ (x y:Int) (w:World),(Op.equalIn 9999 3 (.int .i64 x) (.int .i64 y)).run Tryz.prog w=.ok (x == y) w:=fun x y w=>run_equalIn_int w 9998 _ .i64 .i64 x y hi
 simp only [Op.eqFields,n1,n2,t1,t2,o1,o2,Sem.run_bind,p1,p2,q1,Result.andThen_ok,Sem.run_ite,Sem.run_pure]
 by_cases h1:a=c <;> by_cases h2:b=d <;> simp [h1,h2,Sem.run_pure]
theorem gdArc (x y:Operand) (a b:Array Value) (w:World):(eqGuard .eql 218 x y (.agg a) (.agg b)).run Tryz.prog w=.ok () w:=run_eqGuard_agg w _ _ _ _ _ _ (by kernel_rfl)
def NoneAt (w:World):Prop:=w.cell? ⟨0,0,none⟩=some (.int .i64 (-1))∧w.cell? ⟨0,1,none⟩=some (.int .i64 (-1))
theorem NoneAt.below {w w1:World} (h:NoneAt w) (hb:Below w.heap.size w w1):NoneAt w1:=⟨pw_cell_below hb h.1,pw_cell_below hb h.2⟩
def bStep (M:Nat→Nat→Int) (v:Nat) (st:(Nat→Int × Int) × List Nat) (u:Nat):(Nat→Int × Int) × List Nat :=
 if st.1 u=(-1,-1) then (if 0<M v u then (setW st.1 u (v,u),st.2++[u]) else st) else st
def bfs (M:Nat→Nat→Int) (adj:Nat→List Nat):Nat→(Nat→Int × Int)→List Nat→(Nat→Int × Int)
 | 0,way,_=>way
 | _+1,way,[]=>way
 | f+1,way,v::q=>let st:=(adj v).foldl (bStep M v) (way,q);bfs M adj f st.1 st.2
def noWay:Nat→Int × Int:=fun _=>(-1,-1)
def waysF (M:Nat→Nat→Int) (adj:Nat→List Nat) (N s:Nat):Nat→Int × Int:=bfs M adj N (setW noWay s (s,s)) [s]
def unset (N:Nat) (way:Nat→Int × Int):Nat:=(List.range N).countP (fun i=>decide (way i=(-1,-1)))
theorem unset_other (N:Nat) (way way' : Nat→Int × Int) (h:∀ i,i<N→way i=way' i):unset N way=unset N way':=by
 unfold unset
 refine List.countP_congr fun x hx=>?_
 rw [h x (List.mem_range.1 hx)]
theorem unset_set (N:Nat) (way:Nat→Int × Int) (u:Nat) (a:Int × Int) (ha:a≠(-1,-1)) (hw:way u=(-1,-1)) (hu:u<N):unset N (setW way u a)+1=unset N way:=by
 induction N with
 | zero=>omega
 | succ N ih =>
  unfold unset at ih ⊢
  rw [List.range_succ,List.countP_append,List.countP_append]
  by_cases e:u=N
  ·subst e
   have h:unset u (setW way u a)=unset u way:=unset_other u _ _ (fun i hi=>by unfold setW;rw [if_neg (by omega)])
   unfold unset at h
   rw [h]
   simp [setW,ha,hw]
  ·have:=ih (by omega)
   have h:setW way u a N=way N:=by unfold setW;rw [if_neg (fun e'=>e e'.symm)]
   simp only [List.countP_cons,List.countP_nil,h]
   omega
theorem unset_no (N:Nat):unset N noWay=N:=by
 unfold unset noWay
 simp
theorem noWay_at {v u:Nat}:((v:Int),(u:Int))≠(-1,-1):=fun e=>by injection e;omega
theorem bStep_set (M:Nat→Nat→Int) (N v u:Nat) (st:(Nat→Int × Int) × List Nat) (hu:u<N):unset N (bStep M v st u).1+(bStep M v st u).2.length=unset N st.1+st.2.length:=by
 unfold bStep
 split
 ·split
  ·have:=unset_set N st.1 u (v,u) noWay_at ‹_› hu
   simp;omega
  ·rfl
 ·rfl
def startW (i:Nat):Nat→Int × Int:=fun j=>if j<i then (-1,-1) else (0,0)
theorem startW_succ (i:Nat):setW (startW i) i (-1,-1)=startW (i+1):=by
 funext j
 unfold setW startW
 by_cases e:j=i
 ·subst e;simp
 ·rw [if_neg e]
  by_cases h:j<i
  ·rw [if_pos h,if_pos (by omega)]
  ·rw [if_neg h,if_neg (by omega)]
theorem WayAt.start (w:World) (N:Nat):WayAt w.heap.size N (startW 0) (w.alloc (.cells (madeCells #[.int .i64 0,.int .i64 0] (N*2)) 218)):=by
 have g:∀ i,i<N*2→(madeCells #[Value.int .i64 0,Value.int .i64 0] (N*2))[i]?=some (.int .i64 0):=fun i hi=>by
  have:i % 2=0∨i % 2=1:=by omega
  rcases this with e|e <;> simp [madeCells,hi,e]
 refine ⟨fun i hi=>?_,fun j=>by simp,by simp⟩
 rw [World.cell?_alloc_new,World.cell?_alloc_new,g _ (by omega),g _ (by omega)]
 exact ⟨rfl,rfl⟩
theorem WayAt.same {b N:Nat} {way way' : Nat→Int × Int} {w:World} (h:WayAt b N way w) (he:∀ i,i<N→way i=way' i):WayAt b N way' w:=⟨fun i hi=>by rw [← he i hi];exact h.1 i hi,h.2⟩
set_option maxHeartbeats 8000000 in
set_option maxRecDepth 100000 in
theorem ways_walk (nb mb xb B N n:Nat) (M:Nat→Nat→Int) (adj:Nat→List Nat) (vs:Nat→Value) (w:World) (s:Nat) (h:NetAt nb mb xb B N n M adj vs w) (hN:N≤1000) (hs:s<N) (hz:NoneAt w) (hadj:∀ i,i<N→∀ u,u ∈ adj i→u<N) (hlen:∀ i,(adj i).length<1000000) :
  Calls Tryz.prog 111 #[.pointer (some ⟨nb,0,none⟩),.int .i64 s] w fun e w'=>e=.returned (.slice (some ⟨w.heap.size,0,none⟩) N N)∧WayAt w.heap.size N (waysF M adj N s) w'∧Below w.heap.size w w':=by
 have q1:w.cell? ⟨nb,1,none⟩=some (.slice (some ⟨xb,0,none⟩) N N):=h.cells.2
 have HN:=hid h
 have HZ:=hid hz
 have HADJ:=hid hadj
 have HLEN:=hid hlen
 clear h hz hadj hlen
 have info:(Tryz.prog.info? 218).map (fun i=>(i.zero,i.size,i.bytes))=some (some (.agg #[.int .i64 0,.int .i64 0]),2,16):=by kernel_rfl
 have hmk:∀ w:World,(Instr.makeSlice 216 (.int .i64 N) (.int .i64 N)).run Tryz.prog w=.ok (.slice (some ⟨w.heap.size,0,none⟩) N N) (w.alloc (.cells (madeCells #[.int .i64 0,.int .i64 0] (N*2)) 218)):=by
  intro w
  obtain ⟨i0,hi,hzz⟩:=Option.map_eq_some_iff.1 info
  simp only [Prod.mk.injEq] at hzz
  obtain ⟨hz0,hz1,hz2⟩:=hzz
  have hr:=run_make (P:=Tryz.prog) w 216 218 i0 (.agg #[.int .i64 0,.int .i64 0]) Tryz.underlying216 hi hz0 .i64 .i64 (N:Int) (N:Int) (by omega) (by omega) (by rw [hz2];omega) (by omega)
  simp only [Int.toNat_natCast] at hr
  rw [hz1] at hr
  exact hr
 clear info
 go_enter Tryz.func111,Tryz.ntmps111
 go_wp2_with (fail)
 clear hmk q1
 obtain ⟨B1,hB⟩:∃ B1,B1=w.heap.size:=⟨_,rfl⟩
 obtain ⟨W1,hW1⟩:∃ W1,W1=w.alloc (.cells (madeCells #[.int .i64 0,.int .i64 0] (N*2)) 218):=⟨_,rfl⟩
 have HWY:=Aside0.mk (show WayAt B1 N (startW 0) W1 by rw [hB,hW1];exact WayAt.start w N)
 have HBL:=Aside0.mk (show Below B1 w W1 by rw [hB,hW1];exact below_alloc (Below.refl _ _) _)
 have HBW:=hid hB
 rw [← hB,← hW1]
 clear hB hW1
 go_loopg [19] N (fun kq v19 w'=>∃ (i:Nat),v19=.int .i64 i∧i+kq=N∧Aside0 (WayAt B1 N (startW i) w')∧Aside0 (Below B1 w w'))
 case atStart=>exact ⟨0,rfl,by omega,HWY,HBL⟩
 case round =>
  clear HWY HBL
  obtain ⟨i,rfl,hi,HWY,HBL⟩:=hrel
  by_cases hlt:i<N
  ·have d1:decide ((i:Int)<(N:Int))=true:=decide_eq_true (by omega)
   obtain ⟨gx,rfl⟩:∃ gx,gk=gx+1:=⟨gk-1,by omega⟩
   have s0:(0:Int)≤(i:Int):=by omega
   have s1:(i:Int)<(N:Int):=by omega
   have z0:wr.cell? ⟨0,0,none⟩=some (.int .i64 (-1)):=(HZ.out.below (by rw [← HBW.out];exact HBL.out)).1
   have z1:wr.cell? ⟨0,1,none⟩=some (.int .i64 (-1)):=(HZ.out.below (by rw [← HBW.out];exact HBL.out)).2
   have c0:=(HWY.out.1 i hlt).1
   have c1:=(HWY.out.1 i hlt).2
   have f0:=HWY.out.2.1
   go_wp2
   go_roundg gx
   case rel=>exact ⟨i+1,by go_num,by omega,⟨by rw [← startW_succ];exact HWY.out.put i hlt (-1,-1)⟩,⟨(HBL.out.setCell (p:=⟨B1,i*2,none⟩) (Nat.le_refl _) _).setCell (p:=⟨B1,i*2+1,none⟩) (Nat.le_refl _) _⟩⟩
   case measure=>omega
  ·have d1:decide ((i:Int)<(N:Int))=false:=decide_eq_false (by omega)
   obtain rfl:gk=0:=by omega
   have hiN:N=i:=by omega
   subst hiN
   have HWY1:=Aside0.mk (HWY.out.same (way':=noWay) (fun j hj=>by unfold startW noWay;rw [if_pos hj]))
   clear HWY
   have s0:(0:Int)≤(s:Int):=by omega
   have s1:(s:Int)<(N:Int):=by omega
   have c0:=(HWY1.out.1 s hs).1
   have c1:=(HWY1.out.1 s hs).2
   have f0:=HWY1.out.2.1
   go_wp2
   clear c0 c1 f0 s0 s1
   have HWY2:=Aside0.mk (HWY1.out.put s hs (s,s))
   have HBL2:=Aside0.mk ((HBL.out.setCell (p:=⟨B1,s*2,none⟩) (Nat.le_refl _) (.int .i64 s)).setCell (p:=⟨B1,s*2+1,none⟩) (Nat.le_refl _) (.int .i64 s))
   clear HWY1 HBL
   obtain ⟨W2,hW2⟩:∃ W2,W2=(wr.setCell ⟨B1,s*2,none⟩ (.int .i64 s)).setCell ⟨B1,s*2+1,none⟩ (.int .i64 s):=⟨_,rfl⟩
   have HSZ:=hid (show W2.heap.size=wr.heap.size by rw [hW2];simp)
   rw [← hW2] at HWY2 HBL2 ⊢
   clear hW2
   have hlt2:B1<W2.heap.size:=HWY2.out.2.2
   have HQ0:=Q_one W2 s (B1+1) (by omega)
   rw [HSZ.out] at HQ0
   replace HQ0:=Aside0.mk HQ0
   have HWY3:=Aside0.mk (HWY2.out.below (below_alloc (Below.refl _ _) (.cells #[.int .i64 s] 3)))
   have HBL3:=Aside0.mk (HBL2.out.trans ((below_alloc (Below.refl _ _) (.cells #[.int .i64 s] 3)).mono (Nat.le_of_lt hlt2)))
   clear HWY2 HBL2
   go_loopg [7] N (fun kq v7 w'=>∃ (way:Nat→Int × Int) (q:List Nat),kq≤N∧unset N way+q.length≤kq∧Aside0 (Kd.Q (Kd.int .i64) 3 w' (B1+1) (fun _=>True) v7 (nl q))∧Aside0 (bfs M adj kq way q=waysF M adj N s)∧Aside0 (∀ x,x ∈ q→x<N)∧Aside0 (WayAt B1 N way w')∧Aside0 (Below B1 w w'))
   case atStart =>
    refine ⟨setW noWay s (s,s),[s],Nat.le_refl _,?_,HQ0,⟨rfl⟩,⟨fun x hx=>by rw [List.mem_singleton.1 hx];exact hs⟩,HWY3,HBL3⟩
    have:=unset_set N noWay s (s,s) noWay_at rfl hs
    rw [unset_no] at this
    simp;omega
   case round =>
    clear HWY3 HBL3 HQ0
    obtain ⟨way,q,hkN,hk,HQ,HF,HM,HWY,HBL⟩:=hrel
    obtain ⟨A1,c1,eR,hc1⟩:=Kd.Q_slice HQ.out
    cases q with
    | nil =>
     subst eR
     have HF2:Hid (way=waysF M adj N s):=by
      show _=_
      rw [← HF.out]
      cases gk <;> rfl
     clear HF
     go_wp2
     go_ret
     rw [← HBW.out]
     exact ⟨rfl,by rw [← HF2.out];exact HWY.out,HBL.out⟩
    | cons v q =>
     subst eR
     obtain ⟨g1,rfl⟩:∃ g1,gk=g1+1:=⟨gk-1,by simp at hk;omega⟩
     have hm1:((nl (v::q)).length)=q.length+1:=by simp [nl]
     have hQr:=(Kd.Q_reads' HQ.out).2.2
     rw [hm1] at hQr
     obtain ⟨ad,e0,r0⟩:=Kd.at_int hQr 0 (by omega) (by omega)
     have er:rd (nl (v::q)) 0=(v:Int):=by simp [rd,nl]
     rw [er] at r0
     have ea:ad.add (0:Int).toNat=ad:=by unfold Addr.add;split <;> simp_all
     rw [ea] at r0
     clear ea
     clear hQr er
     subst e0
     obtain ⟨i0,hi0,hiz⟩:=Option.map_eq_some_iff.1 infoIntN
     simp only [Prod.mk.injEq] at hiz
     have hcut:=cut_from (P:=Tryz.prog) 43 3 .i64 Tryz.underlying43 hi0 1 hiz.2.1 (some ad) (q.length+1) c1 1 (by omega) (by omega)
     have HQ2:=Kd.Q_drop (k:=1) HQ.out (by rw [hm1];omega)
     rw [hm1] at HQ2
     have e1:(nl (v::q)).drop 1=nl q:=by simp [nl]
     rw [e1] at HQ2
     clear e1 hiz hi0
     obtain ⟨A2,hA2⟩:∃ A2,A2=(if c1=1 then (some ad:Option Addr) else (some ad:Option Addr).map (·.add (1*(Kd.int .i64).sz))):=⟨_,rfl⟩
     rw [← hA2] at HQ2
     have hA3:A2=(if c1=(1:Int).toNat then (some ad:Option Addr) else (some ad:Option Addr).map (·.add ((1:Int).toNat*1))):=hA2
     rw [← hA3] at hcut
     clear hA2 hA3
     have e2:q.length+1-(1:Int).toNat=q.length:=rfl
     have e3:c1-(1:Int).toNat=c1-1:=rfl
     have e4:q.length+1-1=q.length:=rfl
     rw [e2,e3] at hcut
     rw [e4] at HQ2
     clear e2 e3 e4
     obtain ⟨c2,hc2⟩:∃ c2,c2=c1-1:=⟨_,rfl⟩
     rw [← hc2] at hcut HQ2
     clear hc2
     replace HQ2:=Aside0.mk HQ2
     rw [hm1] at hc1 HQ ⊢
     clear HQ
     have hvN:v<N:=HM.out v List.mem_cons_self
     have HN1:=hid (HN.out.below (by rw [← HBW.out];exact HBL.out))
     have q1:wr.cell? ⟨nb,1,none⟩=some (.slice (some ⟨xb,0,none⟩) N N):=HN1.out.cells.2
     have q2:wr.cell? ⟨xb,v,none⟩=some (vs v):=(HN1.out.rowAt v hvN).1
     obtain ⟨Av,cv,eV⟩:=Kd.R_slice (HN1.out.rows v hvN)
     rw [nl_length] at eV
     rw [eV] at q2
     have HRV:=Kd.R_reads' (eV ▸ HN.out.rows v hvN)
     replace HRV:=Aside0.mk HRV.2.2
     have v0:(0:Int)≤(v:Int):=by omega
     have v1:(v:Int)<(N:Int):=by omega
     go_wp2
     clear hcut r0 q1 q2 v0 v1 hc1 eV HN1
     have hlen1:(adj v).length<1000000:=HLEN.out v
     have HF1:Hid (bfs M adj g1 ((adj v).foldl (bStep M v) (way,q)).1 ((adj v).foldl (bStep M v) (way,q)).2=waysF M adj N s):=HF.out
     have HM1:Aside0 (∀ x,x ∈ q→x<N):=⟨fun x hx=>HM.out x (List.mem_cons_of_mem _ hx)⟩
     clear HF HM
     go_loopg [7,51] (adj v).length (fun kq v7 v51 w'=>∃ (j:Nat) (way1:Nat→Int × Int) (q1:List Nat),v51=.int .i64 j∧j+kq=(adj v).length∧unset N way1+q1.length≤g1∧Aside0 (((adj v).drop j).foldl (bStep M v) (way1,q1)=(adj v).foldl (bStep M v) (way,q))∧Aside0 (Kd.Q (Kd.int .i64) 3 w' (B1+1) (fun _=>True) v7 (nl q1))∧Aside0 (∀ x,x ∈ q1→x<N)∧Aside0 (WayAt B1 N way1 w')∧Aside0 (Below B1 w w'))
     case atStart=>exact ⟨0,way,q,rfl,by omega,by simp at hk;omega,⟨rfl⟩,HQ2,HM1,HWY,HBL⟩
     case round =>
      clear HWY HBL HQ2 HM1
      obtain ⟨j,way1,q1,rfl,hj,hk1,HFd,HQ,HM,HWY,HBL⟩:=hrel
      obtain ⟨A1,c1,eR,hc1⟩:=Kd.Q_slice HQ.out
      rw [nl_length] at eR hc1
      subst eR
      by_cases hlj:j<(adj v).length
      ·have d1:decide ((j:Int)<((adj v).length:Int))=true:=decide_eq_true (by omega)
       obtain ⟨u,hu⟩:∃ u,u=(adj v)[j]:=⟨_,rfl⟩
       obtain ⟨au,e0,r0⟩:=Kd.at_int (by have h:=HRV.out;rw [nl_length] at h;exact h) (j:Int) (by omega) (by omega)
       rw [nl_rd _ _ hlj,← hu,Int.toNat_natCast] at r0
       subst e0
       replace r0:=(HBL.out.cell (by rw [HBW.out];exact World.block_lt_of_cell? w _ r0)).trans r0
       have huN:u<N:=HADJ.out v hvN u (by rw [hu];exact List.getElem_mem _)
       have hdrop:(adj v).drop j=u::(adj v).drop (j+1):=by rw [hu];exact List.drop_eq_getElem_cons hlj
       have HFe:=HFd.out
       rw [hdrop,List.foldl_cons] at HFe
       replace HFe:=hid HFe
       clear HFd hdrop hu
       have HLJ:=hid hlj
       have s0:(0:Int)≤(u:Int):=by omega
       have s1:(u:Int)<(N:Int):=by omega
       have s2:(0:Int)≤(j:Int):=by omega
       have s3:(j:Int)<((adj v).length:Int):=by omega
       have HN1:=hid (HN.out.below (by rw [← HBW.out];exact HBL.out))
       have q0:wr.cell? ⟨nb,0,none⟩=some (.map (some mb)):=HN1.out.cells.1
       have z0:wr.cell? ⟨0,0,none⟩=some (.int .i64 (-1)):=(HZ.out.below (by rw [← HBW.out];exact HBL.out)).1
       have z1:wr.cell? ⟨0,1,none⟩=some (.int .i64 (-1)):=(HZ.out.below (by rw [← HBW.out];exact HBL.out)).2
       have hlook:=HN1.out.room.lookN (u:=v) (v:=u) (by omega) (by omega)
       have k0:=(HWY.out.1 u huN).1
       have k1:=(HWY.out.1 u huN).2
       by_cases hw:way1 u=(-1,-1)
       ·rw [hw] at k0 k1
        have heq:∀ w,(binOp .eql 218 (.agg #[.int .i64 (-1),.int .i64 (-1)]) (.agg #[.int .i64 (-1),.int .i64 (-1)])).run Tryz.prog w=.ok (.bool true) w:=fun w=>by rw [eqArc];rfl
        have hgd:=fun x y w=>gdArc x y #[.int .i64 (-1),.int .i64 (-1)] #[.int .i64 (-1),.int .i64 (-1)] w
        by_cases hm:0<M v u
        ·have d2:decide (0<M v u)=true:=decide_eq_true hm
         go_wp2_with (fail)
         go_quiet (fail)
         obtain ⟨W3,hW3⟩:∃ W3,W3=wr.drewN nq:=⟨_,rfl⟩
         have hb3:Below wr.heap.size wr W3:=by rw [hW3];exact pw_below_drewN (Below.refl _ _) nq
         rw [← hW3]
         clear hW3
         have hltB:B1<wr.heap.size:=HWY.out.2.2
         have HWY3:=Aside0.mk (HWY.out.below hb3)
         have HBL3:=Aside0.mk (HBL.out.trans (hb3.mono (Nat.le_of_lt hltB)))
         have HQ3:=Aside0.mk (Kd.Q_below HQ.out hb3)
         clear HWY HBL HQ q0 z0 z1 r0 k0 k1 hlook heq hgd HN1 hb3 hltB
         have k0:=(HWY3.out.1 u huN).1
         have k1:=(HWY3.out.1 u huN).2
         have f0:=HWY3.out.2.1
         have HQ4:=Aside0.mk (Q_wayset (Q_wayset HQ3.out (u*2) (.int .i64 v)) (u*2+1) (.int .i64 u))
         have HWY4:=Aside0.mk (HWY3.out.put u huN (v,u))
         have HBL4:=Aside0.mk ((HBL3.out.setCell (p:=⟨B1,u*2,none⟩) (Nat.le_refl _) (.int .i64 v)).setCell (p:=⟨B1,u*2+1,none⟩) (Nat.le_refl _) (.int .i64 u))
         clear HWY3 HQ3 HBL3
         have hbq:B1+1≤W3.heap.size:=by have:=HWY4.out.2.2;simp at this;omega
         have hq1:q1.length≤1000:=by omega
         go_wp2_with ((with_reducible refine gate_builtin (b:=.append) (xs:=#[.tmp 78,.tmp 80]) rfl ?_);at_builtin;refine Kd.Q_append (Kd.int .i64) (w0:=((W3.setCell ⟨B1,u*2,none⟩ (.int .i64 v)).setCell ⟨B1,u*2+1,none⟩ (.int .i64 u))) (B1+1) rfl (.tmp 78) (.tmp 80) 43 3 (.int .i64 0) 8 rfl Tryz.underlying43 infoIntN rfl (by decide) (by omega) (.slice A1 q1.length c1) (nl q1) (u:Int) [.int .i64 (u:Int)] (fun _=>True) (fun _=>False) rfl (by first|(go_simp;done)|(go_simp;rfl)) rfl (fun _ hk=>hk.elim) (fun _ _=>trivial) HQ4.out (Below.refl _ _) ?aS ?aL ?_;(case aS=>simpa using hbq);(case aL=>rw [nl_length];omega);intro v6 w6 ho hb hg hat;have HO6:=Aside0.mk ho;have HB6:=Aside0.mk hb;have HG6:=Aside0.mk hg;clear ho hb hg hat)
         go_roundg ((adj v).length-(j+1))
         case rel =>
          have hst:bStep M v (way1,q1) u=(setW way1 u (v,u),q1++[u]):=by unfold bStep;rw [if_pos hw,if_pos hm]
          have hin:=bStep_set M N v u (way1,q1) huN
          rw [hst] at hin
          refine ⟨j+1,setW way1 u (v,u),q1++[u],by go_num,by have:=HLJ.out;omega,by dsimp only at hin;omega,⟨by rw [← hst];exact HFe.out⟩,⟨?_⟩,⟨fun x hx=>?_⟩,⟨HWY4.out.pushed HQ4.out HG6.out⟩,⟨?_⟩⟩
          ·rw [← nl_snoc];exact HO6.out
          ·rcases List.mem_append.1 hx with hx|hx
           ·exact HM.out x hx
           ·rw [List.mem_singleton.1 hx];exact huN
          ·exact HBL4.out.trans (HB6.out.mono (Nat.le_succ B1))
         case measure=>omega
        ·have d2:decide (0<M v u)=false:=decide_eq_false hm
         have HFe2:Hid (((adj v).drop (j+1)).foldl (bStep M v) (way1,q1)=(adj v).foldl (bStep M v) (way,q)):=by
          have h:=HFe.out
          unfold bStep at h
          rw [if_pos hw,if_neg hm] at h
          exact h
         clear HFe
         go_wp2_with (fail)
         go_quiet (fail)
         obtain ⟨W3,hW3⟩:∃ W3,W3=wr.drewN nq:=⟨_,rfl⟩
         have hb3:Below wr.heap.size wr W3:=by rw [hW3];exact pw_below_drewN (Below.refl _ _) nq
         rw [← hW3]
         clear hW3
         have hltB:B1<wr.heap.size:=HWY.out.2.2
         have HWY3:=Aside0.mk (HWY.out.below hb3)
         have HBL3:=Aside0.mk (HBL.out.trans (hb3.mono (Nat.le_of_lt hltB)))
         have HQ3:=Aside0.mk (Kd.Q_below HQ.out hb3)
         clear HWY HBL HQ
         go_wp2
         go_roundg ((adj v).length-(j+1))
         case rel=>exact ⟨j+1,way1,q1,by go_num,by have:=HLJ.out;omega,hk1,⟨HFe2.out⟩,HQ3,HM,HWY3,HBL3⟩
         case measure=>omega
       ·obtain ⟨a,ha⟩:∃ a,a=way1 u:=⟨_,rfl⟩
        rw [← ha] at hw k0 k1
        have HA:=hid ha
        clear ha
        have hab:¬ (a.1 = -1∧a.2 = -1):=fun h=>hw (Prod.ext h.1 h.2)
        have heq:∀ w,(binOp .eql 218 (.agg #[.int .i64 a.1,.int .i64 a.2]) (.agg #[.int .i64 (-1),.int .i64 (-1)])).run Tryz.prog w=.ok (.bool false) w:=fun w=>by rw [eqArc,decide_eq_false hab]
        have hgd:=fun x y w=>gdArc x y #[.int .i64 a.1,.int .i64 a.2] #[.int .i64 (-1),.int .i64 (-1)] w
        have HFe2:Hid (((adj v).drop (j+1)).foldl (bStep M v) (way1,q1)=(adj v).foldl (bStep M v) (way,q)):=by
         have h:=HFe.out
         have hn:¬ (way1 u=(-1,-1)):=by rw [← HA.out];exact hw
         unfold bStep at h
         rw [if_neg hn] at h
         exact h
        clear HFe hw hab
        go_wp2_with (fail)
        go_quiet (fail)
        obtain ⟨W3,hW3⟩:∃ W3,W3=wr.drewN nq:=⟨_,rfl⟩
        have hb3:Below wr.heap.size wr W3:=by rw [hW3];exact pw_below_drewN (Below.refl _ _) nq
        rw [← hW3]
        clear hW3
        have hltB:B1<wr.heap.size:=HWY.out.2.2
        have HWY3:=Aside0.mk (HWY.out.below hb3)
        have HBL3:=Aside0.mk (HBL.out.trans (hb3.mono (Nat.le_of_lt hltB)))
        have HQ3:=Aside0.mk (Kd.Q_below HQ.out hb3)
        clear HWY HBL HQ
        go_wp2
        go_roundg ((adj v).length-(j+1))
        case rel=>exact ⟨j+1,way1,q1,by go_num,by have:=HLJ.out;omega,hk1,⟨HFe2.out⟩,HQ3,HM,HWY3,HBL3⟩
        case measure=>omega
      ·have d1:decide ((j:Int)<((adj v).length:Int))=false:=decide_eq_false (by omega)
       have HFd2:Hid ((adj v).foldl (bStep M v) (way,q)=(way1,q1)):=by
        have h:=HFd.out
        rw [List.drop_eq_nil_of_le (by omega)] at h
        exact h.symm
       clear HFd
       go_wp2
       go_roundg g1
       case rel =>
        refine ⟨way1,q1,by omega,hk1,HQ,⟨?_⟩,HM,HWY,HBL⟩
        have h:=HF1.out
        rw [HFd2.out] at h
        exact h
       case measure=>omega
end Go.Proofs.YtiioklboaookiaaGreatDoor.Q
namespace Go.Proofs.YtiioklboaookiaaGreatDoor.Q
open Go.RowKit Go.Proofs.YtiioklboaookiaaGreatDoorW.PrintWords Go.Proofs.YtiioklboaookiaaGreatDoorW.PrintLast Go.Proofs.YtiioklboaookiaaGreatDoor.Hand Go.Proofs.YtiioklboaookiaaGreatDoorW.PrintMore
attribute [local go_sem] max2_int min2_int max_two min_two max_three min_three max_four min_four
set_option linter.unusedVariables false
set_option linter.unusedSimpArgs false
def Tree (M:Nat→Nat→Int) (N s:Nat) (way:Nat→Int × Int) (d:Nat→Nat):Prop :=
 way s=((s:Int),(s:Int))∧(∀ v,v<N→way v≠(-1,-1)→v≠s→∃ p,p<N∧way v=((p:Int),(v:Int))∧0<M p v∧way p≠(-1,-1)∧d p<d v)∧∀ x,d x+unset N way≤N
theorem Tree.set {M:Nat→Nat→Int} {N s:Nat} {way:Nat→Int × Int} {d:Nat→Nat} (h:Tree M N s way d) {v u:Nat} (hv:v<N) (hw:way v≠(-1,-1)) (hu:way u=(-1,-1)) (hm:0<M v u) (huN:u<N):∃ d',Tree M N s (setW way u (v,u)) d':=by
 have hus:u≠s:=fun e=>by rw [e,h.1] at hu;exact noWay_at hu
 have hvu:v≠u:=fun e=>hw (e ▸ hu)
 refine ⟨fun x=>if x=u then d v+1 else d x,?_,fun x hx hxw hxs=>?_,fun x=>?_⟩
 ·unfold setW;rw [if_neg (fun e=>hus e.symm)];exact h.1
 ·by_cases e:x=u
  ·subst e
   refine ⟨v,hv,?_,hm,?_,?_⟩
   ·unfold setW;rw [if_pos rfl]
   ·unfold setW;rw [if_neg hvu];exact hw
   ·simp [hvu]
  ·have hx2:setW way u (v,u) x=way x:=by unfold setW;rw [if_neg e]
   rw [hx2] at hxw
   obtain ⟨p,h1,h2,h3,h4,h5⟩:=h.2.1 x hx hxw hxs
   have hpu:p≠u:=fun e'=>h4 (e' ▸ hu)
   refine ⟨p,h1,by rw [hx2];exact h2,h3,?_,?_⟩
   ·unfold setW;rw [if_neg hpu];exact h4
   ·simp [hpu,e];exact h5
 ·have h1:=unset_set N way u ((v:Int),(u:Int)) noWay_at hu huN
  have h2:=h.2.2 x
  have h3:=h.2.2 v
  dsimp only
  split <;> omega
theorem fold_tree (M:Nat→Nat→Int) (N s v:Nat) (hv:v<N) (l:List Nat):∀ (way:Nat→Int × Int) (q:List Nat) (d:Nat→Nat),Tree M N s way d→way v≠(-1,-1)→(∀ x,x ∈ q→x<N∧way x≠(-1,-1))→(∀ u,u ∈ l→u<N) →
  (∃ d',Tree M N s (l.foldl (bStep M v) (way,q)).1 d')∧(∀ x,way x≠(-1,-1)→(l.foldl (bStep M v) (way,q)).1 x≠(-1,-1))∧(∀ x,x ∈ (l.foldl (bStep M v) (way,q)).2→x<N∧(l.foldl (bStep M v) (way,q)).1 x≠(-1,-1)) ∧
   (∀ u,u ∈ l→0<M v u→(l.foldl (bStep M v) (way,q)).1 u≠(-1,-1))∧(∀ x,x ∈ q→x ∈ (l.foldl (bStep M v) (way,q)).2)∧(∀ x,(l.foldl (bStep M v) (way,q)).1 x≠(-1,-1)→way x≠(-1,-1)∨x ∈ (l.foldl (bStep M v) (way,q)).2) ∧
   unset N (l.foldl (bStep M v) (way,q)).1+(l.foldl (bStep M v) (way,q)).2.length=unset N way+q.length:=by
 induction l with
 | nil=>intro way q d h hw hq _;exact ⟨⟨d,h⟩,fun _ h=>h,hq,fun u hu=>absurd hu (by simp),fun _ h=>h,fun _ h=>.inl h,rfl⟩
 | cons u l ih =>
  intro way q d h hw hq hl
  rw [List.foldl_cons]
  have hu:u<N:=hl u List.mem_cons_self
  have hl2:∀ u,u ∈ l→u<N:=fun x hx=>hl x (List.mem_cons_of_mem _ hx)
  by_cases h1:way u=(-1,-1)
  ·by_cases h2:0<M v u
   ·have hst:bStep M v (way,q) u=(setW way u (v,u),q++[u]):=by unfold bStep;rw [if_pos h1,if_pos h2]
    have hun:=bStep_set M N v u (way,q) hu
    rw [hst] at hun ⊢
    obtain ⟨d',ht⟩:=h.set hv hw h1 h2 hu
    have hset:∀ x,way x≠(-1,-1)→setW way u (v,u) x≠(-1,-1):=fun x hx=>by
     unfold setW;split
     ·exact noWay_at
     ·exact hx
    have huu:setW way u ((v:Int),(u:Int)) u≠(-1,-1):=by unfold setW;rw [if_pos rfl];exact noWay_at
    obtain ⟨g1,g2,g3,g4,g5,g6,g7⟩:=ih _ _ d' ht (hset v hw) (fun x hx=>by
     rcases List.mem_append.1 hx with hx|hx
     ·exact ⟨(hq x hx).1,hset x (hq x hx).2⟩
     ·rw [List.mem_singleton.1 hx];exact ⟨hu,huu⟩) hl2
    refine ⟨g1,fun x hx=>g2 x (hset x hx),g3,fun x hx hm=>?_,fun x hx=>g5 x (List.mem_append_left _ hx),fun x hx=>?_,by rw [g7];exact hun⟩
    ·rcases List.mem_cons.1 hx with e|hx
     ·rw [e];exact g2 u huu
     ·exact g4 x hx hm
    ·rcases g6 x hx with h|h
     ·by_cases e:x=u
      ·rw [e];exact .inr (g5 u (List.mem_append_right _ (List.mem_singleton.2 rfl)))
      ·refine .inl ?_
       unfold setW at h;rw [if_neg e] at h;exact h
     ·exact .inr h
   ·have hst:bStep M v (way,q) u=(way,q):=by unfold bStep;rw [if_pos h1,if_neg h2]
    rw [hst]
    obtain ⟨g1,g2,g3,g4,g5,g6,g7⟩:=ih _ _ d h hw hq hl2
    refine ⟨g1,g2,g3,fun x hx hm=>?_,g5,g6,g7⟩
    rcases List.mem_cons.1 hx with e|hx
    ·rw [e] at hm;exact absurd hm h2
    ·exact g4 x hx hm
  ·have hst:bStep M v (way,q) u=(way,q):=by unfold bStep;rw [if_neg h1]
   rw [hst]
   obtain ⟨g1,g2,g3,g4,g5,g6,g7⟩:=ih _ _ d h hw hq hl2
   refine ⟨g1,g2,g3,fun x hx hm=>?_,g5,g6,g7⟩
   rcases List.mem_cons.1 hx with e|hx
   ·rw [e];exact g2 u h1
   ·exact g4 x hx hm
theorem bfs_tree (M:Nat→Nat→Int) (adj:Nat→List Nat) (N s:Nat) (hadj:∀ i,i<N→∀ u,u ∈ adj i→u<N) (f:Nat):∀ (way:Nat→Int × Int) (q:List Nat) (d:Nat→Nat),Tree M N s way d→(∀ x,x ∈ q→x<N∧way x≠(-1,-1))→unset N way+q.length≤f →
  (∀ v,v<N→way v≠(-1,-1)→v ∈ q∨∀ u,u ∈ adj v→0<M v u→way u≠(-1,-1)) →
  (∃ d',Tree M N s (bfs M adj f way q) d')∧∀ v,v<N→bfs M adj f way q v≠(-1,-1)→∀ u,u ∈ adj v→0<M v u→bfs M adj f way q u≠(-1,-1):=by
 induction f with
 | zero =>
  intro way q d h hq hf hc
  have hq0:q=[]:=List.length_eq_zero_iff.1 (by omega)
  subst hq0
  refine ⟨⟨d,h⟩,fun v hv hw=>?_⟩
  rcases hc v hv hw with h|h
  ·exact absurd h (by simp)
  ·exact h
 | succ f ih =>
  intro way q d h hq hf hc
  cases q with
  | nil =>
   refine ⟨⟨d,h⟩,fun v hv hw=>?_⟩
   rcases hc v hv hw with h|h
   ·exact absurd h (by simp)
   ·exact h
  | cons v q =>
   obtain ⟨hv,hvw⟩:=hq v List.mem_cons_self
   obtain ⟨⟨d',g1⟩,g2,g3,g4,g5,g6,g7⟩:=fold_tree M N s v hv (adj v) way q d h hvw (fun x hx=>hq x (List.mem_cons_of_mem _ hx)) (hadj v hv)
   refine ih _ _ d' g1 g3 ?_ fun x hx hxw=>?_
   ·rw [g7];simp at hf;omega
   ·by_cases e:x=v
    ·subst e;exact .inr g4
    ·rcases g6 x hxw with h|h
     ·rcases hc x hx h with h' | h'
      ·rcases List.mem_cons.1 h' with h' | h'
       ·exact absurd h' e
       ·exact .inl (g5 x h')
      ·exact .inr fun u hu hm=>g2 u (h' u hu hm)
     ·exact .inl h
theorem waysF_tree (M:Nat→Nat→Int) (adj:Nat→List Nat) (N s:Nat) (hs:s<N) (hadj:∀ i,i<N→∀ u,u ∈ adj i→u<N) :
  (∃ d,Tree M N s (waysF M adj N s) d)∧∀ v,v<N→waysF M adj N s v≠(-1,-1)→∀ u,u ∈ adj v→0<M v u→waysF M adj N s u≠(-1,-1):=by
 have hne:∀ x,x≠s→setW noWay s ((s:Int),(s:Int)) x=(-1,-1):=fun x hx=>by unfold setW noWay;rw [if_neg hx]
 have hss:setW noWay s ((s:Int),(s:Int)) s=((s:Int),(s:Int)):=by unfold setW;rw [if_pos rfl]
 refine bfs_tree M adj N s hadj N _ _ (fun _=>0) ⟨hss,fun v _ hw hvs=>absurd (hne v hvs) hw,fun x=>?_⟩ ?_ ?_ ?_
 ·have:=unset_set N noWay s (s,s) noWay_at rfl hs
  rw [unset_no] at this
  show 0+_≤N
  omega
 ·intro x hx
  rw [List.mem_singleton.1 hx,hss]
  exact ⟨hs,noWay_at⟩
 ·have:=unset_set N noWay s (s,s) noWay_at rfl hs
  rw [unset_no] at this
  simp;omega
 ·intro v _ hw
  by_cases e:v=s
  ·subst e;exact .inl (List.mem_singleton.2 rfl)
  ·exact absurd (hne v e) hw
def rowS (M:Nat→Nat→Int) (x:Nat):Nat→Int
 | 0=>0
 | n+1=>rowS M x n+M x n
theorem rowS_upd (M:Nat→Nat→Int) (a b:Nat) (y:Int) (x n:Nat):rowS (upd M a b y) x n=rowS M x n+(if x=a∧b<n then y-M a b else 0):=by
 induction n with
 | zero=>simp [rowS]
 | succ n ih =>
  unfold rowS
  rw [ih]
  unfold upd
  by_cases h1:x=a
  ·subst h1
   by_cases h2:b<n
   ·simp [h2,show n≠b by omega,show b<n+1 by omega];omega
   ·by_cases h3:n=b
    ·subst h3;simp;omega
    ·simp [h2,h3,show ¬ b<n+1 by omega]
  ·simp [h1]
theorem rowS_nonneg (M:Nat→Nat→Int) (x n:Nat) (h:∀ u,0≤M x u):0≤rowS M x n:=by
 induction n with
 | zero=>simp [rowS]
 | succ n ih=>unfold rowS;have:=h n;omega
structure Aug (M M2:Nat→Nat→Int) (N s t:Nat) (way:Nat→Int × Int) (d:Nat→Nat) (most:Int) (v:Nat):Prop where
 pos:∀ x y,0≤M2 x y
 sym:∀ x y,M2 x y+M2 y x=M x y+M y x
 old:∀ x y,d x<d y→d y≤d v→M2 x y=M x y
 row:∀ x,x<N→rowS M2 x N=rowS M x N+(if x=t then most else 0)-(if x=v then most else 0)
theorem Aug.step {M M2:Nat→Nat→Int} {N s t:Nat} {way:Nat→Int × Int} {d:Nat→Nat} {most:Int} {v p:Nat} (h:Aug M M2 N s t way d most v) (hv:v<N) (hp:p<N) (hd:d p<d v) (h0:0≤most) (hm:most≤M p v) :
  Aug M (upd (upd M2 p v (M2 p v-most)) v p (upd M2 p v (M2 p v-most) v p+most)) N s t way d most p:=by
 have hpv:¬ (v=p):=fun e=>by rw [e] at hd;omega
 have e1:upd M2 p v (M2 p v-most) v p=M2 v p:=by unfold upd;rw [if_neg (by omega)]
 have hMp:M2 p v=M p v:=h.old p v hd (Nat.le_refl _)
 rw [e1]
 have val:∀ x y,upd (upd M2 p v (M2 p v-most)) v p (M2 v p+most) x y=if x=v∧y=p then M2 v p+most else if x=p∧y=v then M2 p v-most else M2 x y:=fun x y=>rfl
 refine ⟨fun x y=>?_,fun x y=>?_,fun x y h1 h2=>?_,fun x hx=>?_⟩
 ·rw [val]
  have:=h.pos v p;have:=h.pos x y
  split
  ·omega
  ·split
   ·omega
   ·omega
 ·rw [val,val]
  have:=h.sym x y
  by_cases a1:x=v∧y=p
  ·obtain ⟨rfl,rfl⟩:=a1
   rw [if_pos ⟨rfl,rfl⟩,if_neg (by omega),if_pos ⟨rfl,rfl⟩];omega
  ·rw [if_neg a1]
   by_cases a2:x=p∧y=v
   ·obtain ⟨rfl,rfl⟩:=a2
    rw [if_pos ⟨rfl,rfl⟩,if_pos ⟨rfl,rfl⟩];omega
   ·rw [if_neg a2,if_neg (by omega),if_neg (by omega)];exact this
 ·rw [val,if_neg (fun e=>by rw [e.1] at h1;omega),if_neg (fun e=>by rw [e.2] at h2;omega)]
  exact h.old x y h1 (by omega)
 ·rw [rowS_upd,rowS_upd,h.row x hx,e1]
  by_cases a1:x=v
  ·subst a1
   simp [hpv,hp];omega
  ·by_cases a2:x=p
   ·subst a2
    simp [hv,a1];omega
   ·simp [a1,a2]
end Go.Proofs.YtiioklboaookiaaGreatDoor.Q
namespace Go.Proofs.YtiioklboaookiaaGreatDoor.Q
open Go.RowKit Go.Proofs.YtiioklboaookiaaGreatDoorW.PrintWords Go.Proofs.YtiioklboaookiaaGreatDoorW.PrintLast Go.Proofs.YtiioklboaookiaaGreatDoor.Hand Go.Proofs.YtiioklboaookiaaGreatDoorW.PrintMore
attribute [local go_sem] max2_int min2_int max_two min_two max_three min_three max_four min_four
set_option linter.unusedVariables false
set_option linter.unusedSimpArgs false
open Go.WideElems Go.ChangeMaps Go.WideMaps in
theorem entry_world {P:Program} {w:World} {t k e:TypeId} {R:Value→Option (DataW Unit × List MemPlace)} {b:Nat} {es:Array MapEntry} {clock:Nat} (K:WideMaps.KeyLaw P k) (ht:P.underlying t=some (.map k e)) {z:Value} (hz:∀ u:World,(zeroValue e).run P u=.ok z u) (hb:w.heap[b]?=some (.map es clock)) (F:Fit P k R es clock)
  {key:Value} {kl:Lit} (hkey:keyOf P k key=some kl) :
  ∃ r w1,(Instr.mapEntry t (.map (some b)) key).run P w=.ok r w1∧(w1=setBlock w b (.map es clock)∨((Instr.lookup t (.map (some b)) key false).run P w=.ok z w∧(Instr.mapUpdate t (.map (some b)) key z).run P w=.ok () w1)):=by
 rcases K.find w hkey es.toList F.keys with ⟨h1,h2⟩ | ⟨j,e0,h1,h2,h3⟩
 ·refine ⟨.tuple #[z,goInt clock],setBlock w b (.map (es.push ⟨key,z,clock⟩) (clock+1)),?_,.inr ⟨?_,?_⟩⟩
  ·simp [Instr.mapEntry,run_underlying ht,MapKept.run_getObj_map hb,K.check w false hkey,h1,hz,MapKept.run_setObj_map _ hb,Result.andThen,setBlock]
  ·simp [Instr.lookup,run_underlying ht,MapKept.run_getObj_map hb,K.check w es.isEmpty hkey,h1,hz,Result.andThen]
  ·simp [Instr.mapUpdate,run_underlying ht,MapKept.run_getObj_map hb,K.check w false hkey,h1,MapKept.run_setObj_map _ hb,Result.andThen,setBlock]
 ·have hj:es[j]?=some e0:=by simpa using h2
  have hsame:es.modify j (fun e=>{ e with key:=key })=es:=by
   apply Array.ext'
   rw [Array.toList_modify,modify_eq_set _ _ _ _ h2]
   have:({ e0 with key:=key }:MapEntry)=e0:=by rw [← h3]
   rw [this]
   exact set_self _ _ _ h2
  refine ⟨.tuple #[e0.val,goInt e0.born],setBlock w b (.map es clock),?_,.inl rfl⟩
  simp [Instr.mapEntry,run_underlying ht,MapKept.run_getObj_map hb,K.check w false hkey,h1,hj,h3,K.stays w hkey,hsame,MapKept.run_setObj_map _ hb,Result.andThen,setBlock]
theorem RoomAt.entryMid {b n:Nat} {M:Nat→Nat→Int} {w:World} (h:RoomAt b n M w) (hn:n<maxLen) {u v:Nat} (hu:u<100000) (hv:v<100000) {r:Value} {w1:World} (hE:(Instr.mapEntry 235 (.map (some b)) (arcV u v)).run Tryz.prog w=.ok r w1) :
  RoomAt b (n+1) M w1∧w.grownBy w1 (some b):=by
 have h':=h
 obtain ⟨D,h1,h2,h3⟩:=h
 obtain ⟨es,clock,hb,F,hs,hD⟩:=h1
 obtain ⟨r',w1',hE',hc⟩:=entry_world arcLaw Tryz.underlying235 zeroInt hb F (arcKey hu hv)
 rw [hE] at hE'
 injection hE' with _ hE'
 subst hE'
 rcases hc with hc | ⟨hl,hm⟩
 ·have he:w1.heap[b]?=w.heap[b]?:=by rw [hc,ChangeMaps.heap_setBlock_same hb,hb]
  refine ⟨⟨D,World.ownsMap.mono ⟨es,clock,he.trans hb,F,hs,hD⟩ (Nat.le_succ n),h2,h3⟩,?_⟩
  rw [hc]
  exact ⟨rfl,rfl,rfl,by simp [ChangeMaps.setBlock],fun i _ hi=>ChangeMaps.heap_setBlock_other hb _ (fun e1=>hi (by rw [e1]))⟩
 ·obtain ⟨w2,hm2,hR,hg⟩:=h'.put hn hu hv (x:=0) (wfN (by omega) (by omega))
  rw [hm] at hm2
  injection hm2 with _ hm2
  subst hm2
  have hl2:=h'.look hu hv
  rw [hl] at hl2
  injection hl2 with hl2 _
  injection hl2 with _ hl2
  have hMM:upd M u v 0=M:=by
   funext a c
   unfold upd
   split
   ·rename_i h;rw [h.1,h.2];exact hl2
   ·rfl
  rw [hMM] at hR
  exact ⟨hR,hg⟩
end Go.Proofs.YtiioklboaookiaaGreatDoor.Q
namespace Go.Proofs.YtiioklboaookiaaGreatDoor.Q
open Go.RowKit Go.Proofs.YtiioklboaookiaaGreatDoorW.PrintWords Go.Proofs.YtiioklboaookiaaGreatDoorW.PrintLast Go.Proofs.YtiioklboaookiaaGreatDoor.Hand Go.Proofs.YtiioklboaookiaaGreatDoorW.PrintMore
attribute [local go_sem] max2_int min2_int max_two min_two max_three min_three max_four min_four
set_option linter.unusedVariables false
set_option linter.unusedSimpArgs false
def itP (way:Nat→Int × Int) (t:Nat):Nat→Nat
 | 0=>t
 | i+1=>(way (itP way t i)).1.toNat
theorem Tree.next {M:Nat→Nat→Int} {N s:Nat} {way:Nat→Int × Int} {d:Nat→Nat} (h:Tree M N s way d) {t i:Nat} (hv:itP way t i<N) (hw:way (itP way t i)≠(-1,-1)) (hs:itP way t i≠s) :
  itP way t (i+1)<N∧way (itP way t i)=((itP way t (i+1):Int),(itP way t i:Int))∧0<M (itP way t (i+1)) (itP way t i)∧way (itP way t (i+1))≠(-1,-1)∧d (itP way t (i+1))<d (itP way t i):=by
 obtain ⟨p,h1,h2,h3,h4,h5⟩:=h.2.1 _ hv hw hs
 have e:itP way t (i+1)=p:=by
  show (way (itP way t i)).1.toNat=p
  rw [h2];simp
 rw [e]
 exact ⟨h1,h2,h3,h4,h5⟩
theorem Tree.stay {M:Nat→Nat→Int} {N s:Nat} {way:Nat→Int × Int} {d:Nat→Nat} (h:Tree M N s way d) {t k:Nat} (hk:itP way t k=s) (j:Nat):itP way t (k+j)=s:=by
 induction j with
 | zero=>exact hk
 | succ j ih =>
  show (way (itP way t (k+j))).1.toNat=s
  rw [ih,h.1];simp
theorem RoomAt.mono {b n n' : Nat} {M:Nat→Nat→Int} {w:World} (h:RoomAt b n M w) (hn:n≤n'):RoomAt b n' M w:=by
 obtain ⟨D,h1,h2⟩:=h
 exact ⟨D,h1.mono hn,h2⟩
theorem NetAt.mono {nb mb xb B N n n' : Nat} {M:Nat→Nat→Int} {adj:Nat→List Nat} {vs:Nat→Value} {w:World} (h:NetAt nb mb xb B N n M adj vs w) (hn:n≤n'):NetAt nb mb xb B N n' M adj vs w :=
 ⟨h.net,h.room.mono hn,h.row,h.rows,h.apart,h.bn,h.bm,h.bx⟩
theorem grown_cell {w w1:World} {b:Nat} (hg:w.grownBy w1 (some b)) {a:Addr} {v:Value} (hc:w.cell? a=some v) (hne:a.block≠b):w1.cell? a=some v:=by
 have h:=hg.block a.block (World.block_lt_of_cell? w a hc) (fun e=>hne (Option.some.inj e))
 unfold World.cell? at hc ⊢
 rw [h];exact hc
theorem NetAt.nbm {nb mb xb B N n:Nat} {M:Nat→Nat→Int} {adj:Nat→List Nat} {vs:Nat→Value} {w:World} (h:NetAt nb mb xb B N n M adj vs w):nb≠mb:=fun e=>by
 obtain ⟨D,⟨es,clock,hb,_⟩,_⟩:=h.room
 rw [← e,h.net] at hb
 injection hb with hb
 cases hb
structure Push (M M' : Nat→Nat→Int) (N s t:Nat) (most:Int):Prop where
 ge:1≤most
 pos:∀ x y,0≤M' x y
 sym:∀ x y,M' x y+M' y x=M x y+M y x
 row:∀ x,x<N→rowS M' x N=rowS M x N+(if x=t then most else 0)-(if x=s then most else 0)
set_option maxHeartbeats 8000000 in
set_option maxRecDepth 100000 in
theorem push_walk (nb mb xb B N n:Nat) (M:Nat→Nat→Int) (adj:Nat→List Nat) (vs:Nat→Value) (w:World) (s t:Nat) (h:NetAt nb mb xb B N n M adj vs w) (hN:N≤1000) (hs:s<N) (ht:t<N) (hst:t≠s) (hz:NoneAt w) (hadj:∀ i,i<N→∀ u,u ∈ adj i→u<N) (hlen:∀ i,(adj i).length<1000000)
  (hpos:∀ x y,0≤M x y) (hbnd:∀ x y,M x y+M y x≤1000000000) (hn:n+2*N<10000000000) :
  Calls Tryz.prog 105 #[.pointer (some ⟨nb,0,none⟩),.int .i64 s,.int .i64 t] w fun e w' =>
   (waysF M adj N s t=(-1,-1)∧e=.returned (.tuple #[.int .i64 0,.bool false])∧Below w.heap.size w w') ∨
   (waysF M adj N s t≠(-1,-1)∧∃ most M',e=.returned (.tuple #[.int .i64 most,.bool true])∧Push M M' N s t most∧NetAt nb mb xb B N (n+2*N) M' adj vs w'∧NetKeep B w w'):=by
 have HN:=hid h
 have HZ:=hid hz
 have HADJ:=hid hadj
 have HLEN:=hid hlen
 have HPOS:=hid hpos
 have HBND:=hid hbnd
 obtain ⟨⟨d,hT⟩,_⟩:=waysF_tree M adj N s hs hadj
 obtain ⟨way,hway⟩:∃ way,way=waysF M adj N s:=⟨_,rfl⟩
 obtain ⟨B1,hB1⟩:∃ B1,B1=w.heap.size:=⟨_,rfl⟩
 rw [← hway] at hT ⊢
 rw [← hB1]
 have HBW:=hid hB1
 have HWAY:=hid hway
 clear hway hB1
 have HT:=hid hT
 clear hT h hz hadj hlen hpos hbnd
 go_enter Tryz.func105,Tryz.ntmps105
 go_wp2_with (fail)
 refine (ways_walk nb mb xb B N n M adj vs w s HN.out hN hs HZ.out HADJ.out HLEN.out).mono ?_
 rintro e w1 ⟨rfl,hW,hB⟩
 rw [← HBW.out,← HWAY.out] at hW
 rw [← HBW.out] at hB ⊢
 have HWY:=Aside0.mk hW
 have HN1:=hid (HN.out.below (by rw [← HBW.out];exact hB))
 have HZ1:=hid (HZ.out.below (by rw [← HBW.out];exact hB))
 have HBL:=Aside0.mk hB
 clear hW hB
 have q0:w1.cell? ⟨nb,0,none⟩=some (.map (some mb)):=HN1.out.cells.1
 have z0:w1.cell? ⟨0,0,none⟩=some (.int .i64 (-1)):=HZ1.out.1
 have z1:w1.cell? ⟨0,1,none⟩=some (.int .i64 (-1)):=HZ1.out.2
 have k0:=(HWY.out.1 t ht).1
 have k1:=(HWY.out.1 t ht).2
 have t0:(0:Int)≤(t:Int):=by omega
 have t1:(t:Int)<(N:Int):=by omega
 by_cases hw:way t=(-1,-1)
 ·rw [hw] at k0 k1
  have heq:∀ w,(binOp .eql 218 (.agg #[.int .i64 (-1),.int .i64 (-1)]) (.agg #[.int .i64 (-1),.int .i64 (-1)])).run Tryz.prog w=.ok (.bool true) w:=fun w=>by rw [eqArc];rfl
  have hgd:=fun x y w=>gdArc x y #[.int .i64 (-1),.int .i64 (-1)] #[.int .i64 (-1),.int .i64 (-1)] w
  go_wp2_with (fail)
  go_quiet (fail)
  go_wp2
  go_ret2
  exact .inl ⟨hw,rfl,HBL.out.trans ((pw_below_drewN (Below.refl w1.heap.size w1) nq).mono (Nat.le_of_lt HWY.out.2.2))⟩
 ·have hit0:itP way t 0=t:=rfl
  obtain ⟨hp1,hp2,hp3,hp4,hp5⟩:=HT.out.next (t:=t) (i:=0) ht hw hst
  rw [hit0] at hp2 hp3 hp5
  obtain ⟨p,hp⟩:∃ p,p=itP way t (0+1):=⟨_,rfl⟩
  rw [← hp] at hp1 hp2 hp3 hp4 hp5
  rw [hp2] at k0 k1
  have hx:¬ ((p:Int) = -1∧(t:Int) = -1):=by omega
  have heq:∀ w,(binOp .eql 218 (.agg #[.int .i64 p,.int .i64 t]) (.agg #[.int .i64 (-1),.int .i64 (-1)])).run Tryz.prog w=.ok (.bool false) w:=fun w=>by rw [eqArc,decide_eq_false hx]
  have hgd:=fun x y w=>gdArc x y #[.int .i64 p,.int .i64 t] #[.int .i64 (-1),.int .i64 (-1)] w
  have HW:=hid hw
  have HP:=hid hp
  have HP3:=hid hp3
  clear hx hw hp hp2 hp3 hp4 hp5 hit0
  go_wp2_with (fail)
  go_quiet (fail)
  obtain ⟨W3,hW3⟩:∃ W3,W3=w1.drewN nq:=⟨_,rfl⟩
  have hb3:Below w1.heap.size w1 W3:=by rw [hW3];exact pw_below_drewN (Below.refl _ _) nq
  rw [← hW3]
  clear hW3 q0 z0 z1 k0 k1 heq hgd
  have HWY3:=Aside0.mk (HWY.out.below hb3)
  have HN3:=hid (HN1.out.below hb3)
  have HBL3:=Aside0.mk (HBL.out.trans (hb3.mono (Nat.le_of_lt HWY.out.2.2)))
  clear HN1 HZ1 HWY HBL hb3
  have q0:W3.cell? ⟨nb,0,none⟩=some (.map (some mb)):=HN3.out.cells.1
  have k0:=(HWY3.out.1 t ht).1
  have k1:=(HWY3.out.1 t ht).2
  obtain ⟨hp2,_⟩:=(HT.out.next (t:=t) (i:=0) ht HW.out hst).2
  rw [show itP way t 0=t from rfl,← HP.out] at hp2
  rw [hp2] at k0 k1
  clear hp2
  have hlook:=HN3.out.room.lookN (u:=p) (v:=t) (by omega) (by omega)
  go_wp2_with (fail)
  go_quiet (fail)
  obtain ⟨W4,hW4⟩:∃ W4,W4=W3.drewN nq:=⟨_,rfl⟩
  have hb4:Below W3.heap.size W3 W4:=by rw [hW4];exact pw_below_drewN (Below.refl _ _) nq
  rw [← hW4]
  clear hW4 q0 k0 k1 hlook
  have HWY4:=Aside0.mk (HWY3.out.below hb4)
  have HBL4:=Aside0.mk (HBL3.out.trans (hb4.mono (Nat.le_of_lt HWY3.out.2.2)))
  clear HN3 HWY3 HBL3 hb4
  have hm1:1≤M p t:=HP3.out
  have hm2:M p t≤1000000000:=by have:=HBND.out p t;have:=HPOS.out t p;omega
  obtain ⟨m0,hm0⟩:∃ m0,m0=M p t:=⟨_,rfl⟩
  rw [← hm0] at hm1 hm2 ⊢
  clear hm0
  go_wp2_with (fail)
  go_loopg [9,10] (d t) (fun kq v9 v10 w'=>∃ (i v:Nat) (m:Int),v9=.int .i64 m∧v10=.int .i64 v∧Aside0 (v=itP way t i)∧v<N∧Aside0 (way v≠(-1,-1))∧d v≤kq∧1≤m∧m≤1000000000∧Aside0 (∀ j,j<i→m≤M (itP way t (j+1)) (itP way t j))∧Aside0 (WayAt B1 N way w')∧Aside0 (Below B1 w w'))
  case atStart=>exact ⟨0,t,m0,rfl,rfl,⟨rfl⟩,ht,⟨HW.out⟩,Nat.le_refl _,hm1,hm2,⟨fun j hj=>absurd hj (by omega)⟩,HWY4,HBL4⟩
  case round =>
   clear HWY4 HBL4
   obtain ⟨i,v,m,rfl,rfl,HV,hv,HVW,hk,hm1,hm2,HLE,HWY,HBL⟩:=hrel
   by_cases hvs:v=s
   ·have d1:((v:Int) != (s:Int))=false:=by rw [bne_eq_false_iff_eq];omega
    go_wp2_with (fail)
    clear d1
    have HL2:=hid (show ∀ j,itP way t j≠s→m≤M (itP way t (j+1)) (itP way t j) from fun j hj=>by
     rcases Nat.lt_or_ge j i with hji|hji
     ·exact HLE.out j hji
     ·have h:=HT.out.stay (t:=t) (k:=i) (by rw [← HV.out];exact hvs) (j-i)
      rw [show i+(j-i)=j by omega] at h
      exact absurd h hj)
    clear HLE HV HVW hk hvs
    have HNA:=hid (HN.out.below (by rw [← HBW.out];exact HBL.out))
    have HKP:=hid (NetKeep.of (B:=B) (by rw [← HBW.out];exact HBL.out) HN.out.base)
    clear HBL
    have HAU:=hid (show Aug M M N s t way d m t from ⟨HPOS.out,fun _ _=>rfl,fun _ _ _ _=>rfl,fun x _=>by split <;> omega⟩)
    go_loopg [11] (d t) (fun kq v11 w'=>∃ (i v n2:Nat) (M2:Nat→Nat→Int),v11=.int .i64 v∧Aside0 (v=itP way t i)∧v<N∧Aside0 (way v≠(-1,-1))∧d v≤kq∧n2+2*d v≤n+2*d t∧Aside0 (Aug M M2 N s t way d m v)∧Aside0 (NetAt nb mb xb B N n2 M2 adj vs w')∧Aside0 (NetKeep B w w')∧Aside0 (WayAt B1 N way w'))
    case atStart=>exact ⟨0,t,n,M,rfl,⟨rfl⟩,ht,⟨HW.out⟩,Nat.le_refl _,Nat.le_refl _,⟨HAU.out⟩,⟨HNA.out⟩,⟨HKP.out⟩,HWY⟩
    case round =>
     clear HAU HNA HKP HWY
     obtain ⟨i,v,n2,M2,rfl,HV,hv,HVW,hk,hn2,HAU,HNA,HKP,HWY⟩:=hrel
     have hdt:d t≤N:=by have:=HT.out.2.2 t;omega
     by_cases hvs:v=s
     ·have d1:((v:Int) != (s:Int))=false:=by rw [bne_eq_false_iff_eq];omega
      have HVS:=hid hvs
      clear hvs
      go_wp2
      go_ret2
      refine .inr ⟨HW.out,m,M2,rfl,⟨hm1,HAU.out.pos,HAU.out.sym,fun x hx=>?_⟩,HNA.out.mono (by omega),HKP.out⟩
      rw [HAU.out.row x hx,HVS.out]
     ·have d1:((v:Int) != (s:Int))=true:=bne_iff_ne.2 (by omega)
      obtain ⟨hp1,hp2,hp3,hp4,hp5⟩:=HT.out.next (t:=t) (i:=i) (by rw [← HV.out];exact hv) (by rw [← HV.out];exact HVW.out) (by rw [← HV.out];exact hvs)
      have hml:=HL2.out i (by rw [← HV.out];exact hvs)
      have k0:=(HWY.out.1 v hv).1
      have k1:=(HWY.out.1 v hv).2
      rw [← HV.out] at hp2 hp3 hp5 hml
      obtain ⟨p1,hp⟩:∃ p1,p1=itP way t (i+1):=⟨_,rfl⟩
      rw [← hp] at hp1 hp2 hp3 hp4 hp5 hml
      rw [hp2] at k0 k1
      have s0:(0:Int)≤(v:Int):=by omega
      have s1:(v:Int)<(N:Int):=by omega
      have HP4:=hid hp4
      have HPI:=hid hp
      have HP5:=hid hp5
      have HML:=hid hml
      have HVS:=hid hvs
      clear hp hp4 hp2 hp3 hvs hml hp5
      go_wp2_with (fail)
      obtain ⟨gb,hgb⟩:∃ gb,gb=wr.heap.size:=⟨_,rfl⟩
      obtain ⟨W5,hW5⟩:∃ W5,W5=wr.alloc (.cells #[.int .i64 p1,.int .i64 v] 218):=⟨_,rfl⟩
      have hb5:Below wr.heap.size wr W5:=by rw [hW5];exact below_alloc (Below.refl _ _) _
      have HBX5:=hid (show W5.heap[gb]?=some (.cells #[.int .i64 p1,.int .i64 v] 218 (0,0)) by rw [hW5,hgb];exact blk_new _ _)
      have hgbm:gb≠mb:=by rw [hgb];exact Ne.symm (Nat.ne_of_lt HNA.out.lt.2.1)
      rw [← hW5,← hgb]
      clear hW5 hgb k0 k1
      have HNA5:=hid (HNA.out.below hb5)
      have HKP5:=hid (HKP.out.trans (NetKeep.of hb5 HNA.out.base))
      have HWY5:=Aside0.mk (HWY.out.below hb5)
      clear HNA HKP HWY hb5
      have HRD:=hid (HNA5.out.below (below_drew1 (Below.refl W5.heap.size W5)))
      have hMp:M2 p1 v=M p1 v:=HAU.out.old p1 v HP5.out (Nat.le_refl _)
      have hx2:m≤M2 p1 v∧M2 p1 v≤1000000000:=by
       have h1:=HML.out;have h2:=HBND.out p1 v;have h3:=HPOS.out v p1
       omega
      have HX3:=hid (show 0≤upd M2 p1 v (M2 p1 v-m) v p1∧upd M2 p1 v (M2 p1 v-m) v p1+m≤1000000000 by
       have hne:¬ (v=p1):=fun e=>by have:=HP5.out;rw [e] at this;omega
       have e1:upd M2 p1 v (M2 p1 v-m) v p1=M2 v p1:=by unfold upd;rw [if_neg (by omega)]
       rw [e1]
       have h1:=HAU.out.sym p1 v;have h2:=HBND.out p1 v;have h3:=HAU.out.pos v p1
       omega)
      clear hMp
      obtain ⟨x2,hx2e⟩:∃ x2,x2=M2 p1 v:=⟨_,rfl⟩
      have hlook:=HRD.out.room.look (u:=p1) (v:=v) (by omega) (by omega)
      unfold arcV at hlook
      rw [← hx2e] at hlook hx2 HX3
      have HX2:=hid hx2e
      clear hx2e
      obtain ⟨M3,hM3⟩:∃ M3,M3=upd M2 p1 v (x2-m):=⟨_,rfl⟩
      obtain ⟨v4,st4,w6,w7,hE,hS,hR,hg,hz1,hz2⟩:=HRD.out.room.entry (by unfold maxLen;omega) (u:=p1) (v:=v) (x:=x2-m) (by omega) (by omega) (wfN (by omega) (by omega))
      obtain ⟨hM6,hg6⟩:=HRD.out.room.entryMid (by unfold maxLen;omega) (u:=p1) (v:=v) (by omega) (by omega) hE
      have hl6:=hM6.look (u:=p1) (v:=v) (by omega) (by omega)
      unfold arcV at hE hl6
      rw [← HX2.out] at hl6
      replace hS:(Instr.entryStore 235 (.map (some mb)) (.int .i64 st4) (.int .i64 (x2-m))).run Tryz.prog w6=.ok () w7:=hS
      have hwr:IntKind.i64.wrap (x2-m)=x2-m:=IntWalk.i64_in _ (by omega)
      have q0:W5.cell? ⟨nb,0,none⟩=some (.map (some mb)):=HNA5.out.cells.1
      have HS4:=hid (show W5.drew.cell? ⟨nb,0,none⟩=some (.map (some mb))∧W5.drew.cell? ⟨gb,0,none⟩=some (.int .i64 p1)∧W5.drew.cell? ⟨gb,1,none⟩=some (.int .i64 v)∧(Instr.lookup 235 (.map (some mb)) (.agg #[.int .i64 (p1:Int),.int .i64 (v:Int)]) false).run Tryz.prog W5.drew=.ok (.int .i64 x2) W5.drew from ⟨q0,by show W5.cell? _=_;simp [World.cell?,HBX5.out],by show W5.cell? _=_;simp [World.cell?,HBX5.out],hlook⟩)
      have HS6:=hid (show w6.cell? ⟨nb,0,none⟩=some (.map (some mb))∧w6.cell? ⟨gb,0,none⟩=some (.int .i64 p1)∧w6.cell? ⟨gb,1,none⟩=some (.int .i64 v)∧(Instr.lookup 235 (.map (some mb)) (.agg #[.int .i64 (p1:Int),.int .i64 (v:Int)]) false).run Tryz.prog w6=.ok (.int .i64 x2) w6 from ⟨grown_cell hg6 HS4.out.1 HNA5.out.nbm,grown_cell hg6 HS4.out.2.1 hgbm,grown_cell hg6 HS4.out.2.2.1 hgbm,hl6⟩)
      clear hM6 hg6 hl6
      rw [← hM3] at hR HX3
      have hM3v:M3 p1 v=x2-m:=by rw [hM3];unfold upd;rw [if_pos ⟨rfl,rfl⟩]
      have HM3V:=hid hM3v
      rw [HX2.out] at hM3
      have HM3:=hid hM3
      have HR:=hid hR
      have HG:=hid hg
      have HZ2:=hid hz2
      clear hM3 hM3v hR hg hlook hz1 hz2 q0
      refine start_ (n:=11) (S:=fun w'=>w'.cell? ⟨nb,0,none⟩=some (.map (some mb))∧w'.cell? ⟨gb,0,none⟩=some (.int .i64 p1)∧w'.cell? ⟨gb,1,none⟩=some (.int .i64 v)∧(Instr.lookup 235 (.map (some mb)) (.agg #[.int .i64 (p1:Int),.int .i64 (v:Int)]) false).run Tryz.prog w' = .ok (.int .i64 x2) w') (ds:=[10]) #[false,false,false,false,false,false,false,false,false,false,false] (by kernel_rfl) rfl rfl HS4.out (fun hHeld=>?_)
      refine pure_ (i:=0) (N:=some 64) (v:=?_) (a':=?_) #[true,false,false,false,false,false,false,false,false,false,false] rfl rfl (by kernel_rfl) (fun _ _ _ h=>h) (Or.inl ⟨by rfl,?_⟩) ?_ ?_
      rotate_left
      ·intro w'
       go_simp
       with_reducible rfl
      rotate_left
      ·simp only [Act.put,sp__,i64_w,i32_w]
       rfl
      refine pure_ (i:=1) (N:=some 65) (v:=?_) (a':=?_) #[true,true,false,false,false,false,false,false,false,false,false] rfl rfl (by kernel_rfl) (fun _ _ _ h=>h) (Or.inl ⟨by rfl,?_⟩) ?_ ?_
      rotate_left
      ·intro w'
       go_simp
       with_reducible rfl
      rotate_left
      ·simp only [Act.put,sp__,i64_w,i32_w]
       rfl
      refine pure_ (i:=2) (N:=some 66) (v:=?_) (a':=?_) #[true,true,true,false,false,false,false,false,false,false,false] rfl rfl (by kernel_rfl) (fun _ _ _ h=>h) (Or.inl ⟨by rfl,?_⟩) ?_ ?_
      rotate_left
      ·intro w'
       go_simp
       with_reducible rfl
      rotate_left
      ·simp only [Act.put,sp__,i64_w,i32_w]
       rfl
      refine take_ (i:=3) (N:=some 67) (v:=?_) (a':=?_) #[true,true,true,true,false,false,false,false,false,false,false] rfl rfl (by kernel_rfl) (fun _ _ _ h=>h) (Or.inl ⟨by rfl,?_⟩) hHeld ?_ ?_
      rotate_left
      ·rintro w' ⟨s0,s1,s2,s3⟩
       go_simp
       with_reducible rfl
      rotate_left
      ·simp only [Act.put,sp__,i64_w,i32_w]
       rfl
      refine take_ (i:=4) (N:=some 68) (v:=?_) (a':=?_) #[true,true,true,true,true,false,false,false,false,false,false] rfl rfl (by kernel_rfl) (fun _ _ _ h=>h) (Or.inl ⟨by rfl,?_⟩) hHeld ?_ ?_
      rotate_left
      ·rintro w' ⟨s0,s1,s2,s3⟩
       go_simp
       with_reducible rfl
      rotate_left
      ·simp only [Act.put,sp__,i64_w,i32_w]
       rfl
      refine take_ (i:=5) (N:=some 69) (v:=?_) (a':=?_) #[true,true,true,true,true,true,false,false,false,false,false] rfl rfl (by kernel_rfl) (fun _ _ _ h=>h) (Or.inl ⟨by rfl,?_⟩) hHeld ?_ ?_
      rotate_left
      ·rintro w' ⟨s0,s1,s2,s3⟩
       go_simp
       with_reducible rfl
      rotate_left
      ·simp only [Act.put,sp__,i64_w,i32_w]
       rfl
      refine pure_ (i:=6) (N:=some 70) (v:=?_) (a':=?_) #[true,true,true,true,true,true,true,false,false,false,false] rfl rfl (by kernel_rfl) (fun _ _ _ h=>h) (Or.inl ⟨by rfl,?_⟩) ?_ ?_
      rotate_left
      ·intro w'
       go_simp
       with_reducible rfl
      rotate_left
      ·simp only [Act.put,sp__,i64_w,i32_w]
       rfl
      refine pure_ (i:=7) (N:=some 71) (v:=?_) (a':=?_) #[true,true,true,true,true,true,true,true,false,false,false] rfl rfl (by kernel_rfl) (fun _ _ _ h=>h) (Or.inl ⟨by rfl,?_⟩) ?_ ?_
      rotate_left
      ·intro w'
       go_simp
       with_reducible rfl
      rotate_left
      ·simp only [Act.put,sp__,i64_w,i32_w]
       rfl
      refine one_ (i:=8) (N:=some 72) #[true,true,true,true,true,true,true,true,true,false,false] rfl rfl (by kernel_rfl) (by decide) (fun K hK=>?_)
      refine value_ (w1:=?_) (v:=?_) (by rfl) rfl ?_ ?_
      rotate_left 2
      ·go_simp
       first|(refine ⟨?_,?_⟩ <;> rfl)|rfl
      refine hK.out _ _ HS6.out (fun hHeld=>?_)
      clear hK K
      refine norm_ (a':=?_) ?_ ?_
      rotate_left
      ·show Act.put _ (some 72) _=_
       simp only [Act.put,sp__,i64_w,i32_w]
       rfl
      refine pure_ (i:=9) (N:=some 73) (v:=?_) (a':=?_) #[true,true,true,true,true,true,true,true,true,true,false] rfl rfl (by kernel_rfl) (fun _ _ _ h=>h) (Or.inl ⟨by rfl,?_⟩) ?_ ?_
      rotate_left
      ·intro w'
       go_simp
       with_reducible rfl
      rotate_left
      ·simp only [Act.put,sp__,i64_w,i32_w]
       rfl
      refine last_ (i:=10) (N:=none) #[true,true,true,true,true,true,true,true,true,true,true] rfl rfl (by kernel_rfl) (by decide) (fun K hK=>?_)
      refine skip_ (w1:=?_) (by rfl) rfl ?_ ?_
      rotate_left
      ·go_simp
       rfl
      refine hK.out _ _ ?_
      clear hK K
      refine done_ (by kernel_rfl) ?_
      obtain ⟨HNA7a,HKP7a⟩:=NetAt.put HRD.out HR.out HG.out
      have hB1w:B1<W5.heap.size:=HWY5.out.2.2
      have hB1m:B1≠mb:=by have:=HN.out.lt;have:=HBW.out;omega
      have HWY7:=Aside0.mk (HWY5.out.heap (w1:=w7) (HG.out.block B1 hB1w (fun e=>hB1m (Option.some.inj e))) (by rw [HZ2.out];exact hB1w))
      have HBX7:=hid (show w7.heap[gb]?=some (.cells #[.int .i64 p1,.int .i64 v] 218 (0,0)) from (HG.out.block gb (lt_of_some HBX5.out) (fun e=>hgbm (Option.some.inj e))).trans HBX5.out)
      have HNA7:=hid HNA7a
      have HKP7:=hid ((HKP5.out.trans (NetKeep.of (below_drew1 (Below.refl W5.heap.size W5)) HNA5.out.base)).trans HKP7a)
      clear HNA7a HKP7a hB1w hB1m HR HG HZ2 HS4 hE hS HBX5 HNA5 HKP5 HWY5 HRD
      have q0:w7.cell? ⟨nb,0,none⟩=some (.map (some mb)):=HNA7.out.cells.1
      have b0:w7.cell? ⟨gb,0,none⟩=some (.int .i64 p1):=by simp [World.cell?,HBX7.out]
      have b1:w7.cell? ⟨gb,1,none⟩=some (.int .i64 v):=by simp [World.cell?,HBX7.out]
      have hlook:=HNA7.out.room.lookN (u:=p1) (v:=v) (by omega) (by omega)
      rw [HM3V.out] at hlook
      by_cases hy:x2-m=0
      ·have t2:(x2-m == 0)=true:=beq_iff_eq.2 hy
       have HY:=hid hy
       clear hy
       go_wp2_with (fail)
       go_quiet (fail)
       obtain ⟨W8,hW8⟩:∃ W8,W8=w7.drewN nq:=⟨_,rfl⟩
       have hb8:Below w7.heap.size w7 W8:=by rw [hW8];exact pw_below_drewN (Below.refl _ _) nq
       rw [← hW8]
       clear hW8 q0 b0 b1 hlook
       have HNA8:=hid (HNA7.out.below hb8)
       have HKP8:=hid (HKP7.out.trans (NetKeep.of hb8 HNA7.out.base))
       have HWY8:=Aside0.mk (HWY7.out.below hb8)
       have HBX8:=hid (show W8.heap[gb]?=some (.cells #[.int .i64 p1,.int .i64 v] 218 (0,0)) from (hb8.block gb (lt_of_some HBX7.out)).trans HBX7.out)
       clear HNA7 HKP7 HWY7 HBX7 hb8
       have q0:W8.cell? ⟨nb,0,none⟩=some (.map (some mb)):=HNA8.out.cells.1
       have HRE:=hid (HNA8.out.below (below_drew1 (Below.refl W8.heap.size W8)))
       obtain ⟨W9,hD,hR,hg⟩:=HRE.out.room.del (u:=p1) (v:=v) (by omega) (by omega) 0
       unfold arcV at hD
       have hMM:upd M3 p1 v 0=M3:=by
        funext a b
        unfold upd
        split
        ·rename_i h;rw [h.1,h.2,HM3V.out,HY.out]
        ·rfl
       rw [hMM] at hR
       have HS4:=hid (show W8.drew.cell? ⟨nb,0,none⟩=some (.map (some mb))∧W8.drew.cell? ⟨gb,0,none⟩=some (.int .i64 p1)∧W8.drew.cell? ⟨gb,1,none⟩=some (.int .i64 v) from ⟨q0,by show W8.cell? _=_;simp [World.cell?,HBX8.out],by show W8.cell? _=_;simp [World.cell?,HBX8.out]⟩)
       have HR:=hid hR
       have HG:=hid hg
       have hB1w:B1<W8.heap.size:=HWY8.out.2.2
       have hB1m:B1≠mb:=by have:=HN.out.lt;have:=HBW.out;omega
       have hhe:=HG.out.block B1 hB1w (fun e=>hB1m (Option.some.inj e))
       have HWY9:=Aside0.mk (HWY8.out.heap (w1:=W9) hhe (lt_of_some (hhe.trans (Array.getElem?_eq_getElem hB1w))))
       have HBX9:=hid (show W9.heap[gb]?=some (.cells #[.int .i64 p1,.int .i64 v] 218 (0,0)) from (HG.out.block gb (lt_of_some HBX8.out) (fun e=>hgbm (Option.some.inj e))).trans HBX8.out)
       clear hR hg hMM q0 hhe hB1w hB1m
       go_wp2_with (fail)
       refine start_ (n:=6) (S:=fun w'=>w'.cell? ⟨nb,0,none⟩=some (.map (some mb))∧w'.cell? ⟨gb,0,none⟩=some (.int .i64 p1)∧w'.cell? ⟨gb,1,none⟩=some (.int .i64 v)) (ds:=[5]) #[false,false,false,false,false,false] (by kernel_rfl) rfl rfl HS4.out (fun hHeld=>?_)
       refine pure_ (i:=0) (N:=some 81) (v:=?_) (a':=?_) #[true,false,false,false,false,false] rfl rfl (by kernel_rfl) (fun _ _ _ h=>h) (Or.inl ⟨by rfl,?_⟩) ?_ ?_
       rotate_left
       ·intro w'
        go_simp
        with_reducible rfl
       rotate_left
       ·simp only [Act.put,sp__,i64_w,i32_w]
        rfl
       refine pure_ (i:=1) (N:=some 82) (v:=?_) (a':=?_) #[true,true,false,false,false,false] rfl rfl (by kernel_rfl) (fun _ _ _ h=>h) (Or.inl ⟨by rfl,?_⟩) ?_ ?_
       rotate_left
       ·intro w'
        go_simp
        with_reducible rfl
       rotate_left
       ·simp only [Act.put,sp__,i64_w,i32_w]
        rfl
       refine pure_ (i:=2) (N:=some 83) (v:=?_) (a':=?_) #[true,true,true,false,false,false] rfl rfl (by kernel_rfl) (fun _ _ _ h=>h) (Or.inl ⟨by rfl,?_⟩) ?_ ?_
       rotate_left
       ·intro w'
        go_simp
        with_reducible rfl
       rotate_left
       ·simp only [Act.put,sp__,i64_w,i32_w]
        rfl
       refine take_ (i:=3) (N:=some 84) (v:=?_) (a':=?_) #[true,true,true,true,false,false] rfl rfl (by kernel_rfl) (fun _ _ _ h=>h) (Or.inl ⟨by rfl,?_⟩) hHeld ?_ ?_
       rotate_left
       ·rintro w' ⟨s0,s1,s2⟩
        go_simp
        with_reducible rfl
       rotate_left
       ·simp only [Act.put,sp__,i64_w,i32_w]
        rfl
       refine take_ (i:=4) (N:=some 85) (v:=?_) (a':=?_) #[true,true,true,true,true,false] rfl rfl (by kernel_rfl) (fun _ _ _ h=>h) (Or.inl ⟨by rfl,?_⟩) hHeld ?_ ?_
       rotate_left
       ·rintro w' ⟨s0,s1,s2⟩
        go_simp
        with_reducible rfl
       rotate_left
       ·simp only [Act.put,sp__,i64_w,i32_w]
        rfl
       refine last_ (i:=5) (N:=none) #[true,true,true,true,true,true] rfl rfl (by kernel_rfl) (by decide) (fun K hK=>?_)
       refine value_ (w1:=?_) (v:=?_) (by rfl) rfl ?_ ?_
       rotate_left 2
       ·go_simp
        first|(refine ⟨?_,?_⟩ <;> rfl)|rfl
       refine hK.out _ _ ?_
       clear hK K
       refine done_ (by kernel_rfl) ?_
       obtain ⟨HNA9a,HKP9a⟩:=NetAt.put HRE.out HR.out HG.out
       have HNA9:=hid HNA9a
       have HKP9:=hid ((HKP8.out.trans (NetKeep.of (below_drew1 (Below.refl W8.heap.size W8)) HNA8.out.base)).trans HKP9a)
       clear HNA9a HKP9a HNA8 HKP8 HWY8 HBX8 HR HG HRE hD HS4
       go_wp2_with (fail)
       have q0:W9.cell? ⟨nb,0,none⟩=some (.map (some mb)):=HNA9.out.cells.1
       have HRD:=hid (HNA9.out.below (below_drew1 (Below.refl W9.heap.size W9)))
       obtain ⟨x3,hx3⟩:∃ x3,x3=M3 v p1:=⟨_,rfl⟩
       have hx4:0≤x3∧x3+m≤1000000000:=by rw [hx3];exact HX3.out
       have hlook:=HRD.out.room.look (u:=v) (v:=p1) (by omega) (by omega)
       unfold arcV at hlook
       rw [← hx3] at hlook
       have HX:=hid hx3
       clear hx3
       obtain ⟨v5,st5,w10,w11,hE,hS,hR,hg,hz1,hz2⟩:=HRD.out.room.entry (by unfold maxLen;omega) (u:=v) (v:=p1) (x:=x3+m) (by omega) (by omega) (wfN (by omega) (by omega))
       obtain ⟨hM6,hg6⟩:=HRD.out.room.entryMid (by unfold maxLen;omega) (u:=v) (v:=p1) (by omega) (by omega) hE
       have hl6:=hM6.look (u:=v) (v:=p1) (by omega) (by omega)
       unfold arcV at hE hl6
       rw [← HX.out] at hl6
       replace hS:(Instr.entryStore 235 (.map (some mb)) (.int .i64 st5) (.int .i64 (x3+m))).run Tryz.prog w10=.ok () w11:=hS
       have hwr:IntKind.i64.wrap (x3+m)=x3+m:=IntWalk.i64_in _ (by omega)
       have HS4:=hid (show W9.drew.cell? ⟨nb,0,none⟩=some (.map (some mb))∧W9.drew.cell? ⟨gb,0,none⟩=some (.int .i64 p1)∧W9.drew.cell? ⟨gb,1,none⟩=some (.int .i64 v)∧(Instr.lookup 235 (.map (some mb)) (.agg #[.int .i64 (v:Int),.int .i64 (p1:Int)]) false).run Tryz.prog W9.drew=.ok (.int .i64 x3) W9.drew from ⟨q0,by show W9.cell? _=_;simp [World.cell?,HBX9.out],by show W9.cell? _=_;simp [World.cell?,HBX9.out],hlook⟩)
       have HS6:=hid (show w10.cell? ⟨nb,0,none⟩=some (.map (some mb))∧w10.cell? ⟨gb,0,none⟩=some (.int .i64 p1)∧w10.cell? ⟨gb,1,none⟩=some (.int .i64 v)∧(Instr.lookup 235 (.map (some mb)) (.agg #[.int .i64 (v:Int),.int .i64 (p1:Int)]) false).run Tryz.prog w10=.ok (.int .i64 x3) w10 from ⟨grown_cell hg6 HS4.out.1 HNA9.out.nbm,grown_cell hg6 HS4.out.2.1 hgbm,grown_cell hg6 HS4.out.2.2.1 hgbm,hl6⟩)
       clear hM6 hg6 hl6
       have HR:=hid hR
       have HG:=hid hg
       have HZ2:=hid hz2
       clear hR hg hlook hz1 hz2 q0
       refine start_ (n:=15) (S:=fun w'=>w'.cell? ⟨nb,0,none⟩=some (.map (some mb))∧w'.cell? ⟨gb,0,none⟩=some (.int .i64 p1)∧w'.cell? ⟨gb,1,none⟩=some (.int .i64 v)∧(Instr.lookup 235 (.map (some mb)) (.agg #[.int .i64 (v:Int),.int .i64 (p1:Int)]) false).run Tryz.prog w' = .ok (.int .i64 x3) w') (ds:=[14]) #[false,false,false,false,false,false,false,false,false,false,false,false,false,false,false] (by kernel_rfl) rfl rfl HS4.out (fun hHeld=>?_)
       refine pure_ (i:=0) (N:=some 86) (v:=?_) (a':=?_) #[true,false,false,false,false,false,false,false,false,false,false,false,false,false,false] rfl rfl (by kernel_rfl) (fun _ _ _ h=>h) (Or.inl ⟨by rfl,?_⟩) ?_ ?_
       rotate_left
       ·intro w'
        go_simp
        with_reducible rfl
       rotate_left
       ·simp only [Act.put,sp__,i64_w,i32_w]
        rfl
       refine pure_ (i:=1) (N:=some 87) (v:=?_) (a':=?_) #[true,true,false,false,false,false,false,false,false,false,false,false,false,false,false] rfl rfl (by kernel_rfl) (fun _ _ _ h=>h) (Or.inl ⟨by rfl,?_⟩) ?_ ?_
       rotate_left
       ·intro w'
        go_simp
        with_reducible rfl
       rotate_left
       ·simp only [Act.put,sp__,i64_w,i32_w]
        rfl
       refine pure_ (i:=2) (N:=some 88) (v:=?_) (a':=?_) #[true,true,true,false,false,false,false,false,false,false,false,false,false,false,false] rfl rfl (by kernel_rfl) (fun _ _ _ h=>h) (Or.inl ⟨by rfl,?_⟩) ?_ ?_
       rotate_left
       ·intro w'
        go_simp
        with_reducible rfl
       rotate_left
       ·simp only [Act.put,sp__,i64_w,i32_w]
        rfl
       refine take_ (i:=3) (N:=some 89) (v:=?_) (a':=?_) #[true,true,true,true,false,false,false,false,false,false,false,false,false,false,false] rfl rfl (by kernel_rfl) (fun _ _ _ h=>h) (Or.inl ⟨by rfl,?_⟩) hHeld ?_ ?_
       rotate_left
       ·rintro w' ⟨s0,s1,s2,s3⟩
        go_simp
        with_reducible rfl
       rotate_left
       ·simp only [Act.put,sp__,i64_w,i32_w]
        rfl
       refine pure_ (i:=4) (N:=some 90) (v:=?_) (a':=?_) #[true,true,true,true,true,false,false,false,false,false,false,false,false,false,false] rfl rfl (by kernel_rfl) (fun _ _ _ h=>h) (Or.inl ⟨by rfl,?_⟩) ?_ ?_
       rotate_left
       ·intro w'
        go_simp
        with_reducible rfl
       rotate_left
       ·simp only [Act.put,sp__,i64_w,i32_w]
        rfl
       refine take_ (i:=5) (N:=some 91) (v:=?_) (a':=?_) #[true,true,true,true,true,true,false,false,false,false,false,false,false,false,false] rfl rfl (by kernel_rfl) (fun _ _ _ h=>h) (Or.inl ⟨by rfl,?_⟩) hHeld ?_ ?_
       rotate_left
       ·rintro w' ⟨s0,s1,s2,s3⟩
        go_simp
        with_reducible rfl
       rotate_left
       ·simp only [Act.put,sp__,i64_w,i32_w]
        rfl
       refine pure_ (i:=6) (N:=some 92) (v:=?_) (a':=?_) #[true,true,true,true,true,true,true,false,false,false,false,false,false,false,false] rfl rfl (by kernel_rfl) (fun _ _ _ h=>h) (Or.inl ⟨by rfl,?_⟩) ?_ ?_
       rotate_left
       ·intro w'
        go_simp
        with_reducible rfl
       rotate_left
       ·simp only [Act.put,sp__,i64_w,i32_w]
        rfl
       refine take_ (i:=7) (N:=some 93) (v:=?_) (a':=?_) #[true,true,true,true,true,true,true,true,false,false,false,false,false,false,false] rfl rfl (by kernel_rfl) (fun _ _ _ h=>h) (Or.inl ⟨by rfl,?_⟩) hHeld ?_ ?_
       rotate_left
       ·rintro w' ⟨s0,s1,s2,s3⟩
        go_simp
        with_reducible rfl
       rotate_left
       ·simp only [Act.put,sp__,i64_w,i32_w]
        rfl
       refine pure_ (i:=8) (N:=some 94) (v:=?_) (a':=?_) #[true,true,true,true,true,true,true,true,true,false,false,false,false,false,false] rfl rfl (by kernel_rfl) (fun _ _ _ h=>h) (Or.inl ⟨by rfl,?_⟩) ?_ ?_
       rotate_left
       ·intro w'
        go_simp
        with_reducible rfl
       rotate_left
       ·simp only [Act.put,sp__,i64_w,i32_w]
        rfl
       refine take_ (i:=9) (N:=some 95) (v:=?_) (a':=?_) #[true,true,true,true,true,true,true,true,true,true,false,false,false,false,false] rfl rfl (by kernel_rfl) (fun _ _ _ h=>h) (Or.inl ⟨by rfl,?_⟩) hHeld ?_ ?_
       rotate_left
       ·rintro w' ⟨s0,s1,s2,s3⟩
        go_simp
        with_reducible rfl
       rotate_left
       ·simp only [Act.put,sp__,i64_w,i32_w]
        rfl
       refine pure_ (i:=10) (N:=some 96) (v:=?_) (a':=?_) #[true,true,true,true,true,true,true,true,true,true,true,false,false,false,false] rfl rfl (by kernel_rfl) (fun _ _ _ h=>h) (Or.inl ⟨by rfl,?_⟩) ?_ ?_
       rotate_left
       ·intro w'
        go_simp
        with_reducible rfl
       rotate_left
       ·simp only [Act.put,sp__,i64_w,i32_w]
        rfl
       refine pure_ (i:=11) (N:=some 97) (v:=?_) (a':=?_) #[true,true,true,true,true,true,true,true,true,true,true,true,false,false,false] rfl rfl (by kernel_rfl) (fun _ _ _ h=>h) (Or.inl ⟨by rfl,?_⟩) ?_ ?_
       rotate_left
       ·intro w'
        go_simp
        with_reducible rfl
       rotate_left
       ·simp only [Act.put,sp__,i64_w,i32_w]
        rfl
       refine one_ (i:=12) (N:=some 98) #[true,true,true,true,true,true,true,true,true,true,true,true,true,false,false] rfl rfl (by kernel_rfl) (by decide) (fun K hK=>?_)
       refine value_ (w1:=?_) (v:=?_) (by rfl) rfl ?_ ?_
       rotate_left 2
       ·go_simp
        first|(refine ⟨?_,?_⟩ <;> rfl)|rfl
       refine hK.out _ _ HS6.out (fun hHeld=>?_)
       clear hK K
       refine norm_ (a':=?_) ?_ ?_
       rotate_left
       ·show Act.put _ (some 98) _=_
        simp only [Act.put,sp__,i64_w,i32_w]
        rfl
       refine pure_ (i:=13) (N:=some 99) (v:=?_) (a':=?_) #[true,true,true,true,true,true,true,true,true,true,true,true,true,true,false] rfl rfl (by kernel_rfl) (fun _ _ _ h=>h) (Or.inl ⟨by rfl,?_⟩) ?_ ?_
       rotate_left
       ·intro w'
        go_simp
        with_reducible rfl
       rotate_left
       ·simp only [Act.put,sp__,i64_w,i32_w]
        rfl
       refine last_ (i:=14) (N:=none) #[true,true,true,true,true,true,true,true,true,true,true,true,true,true,true] rfl rfl (by kernel_rfl) (by decide) (fun K hK=>?_)
       refine skip_ (w1:=?_) (by rfl) rfl ?_ ?_
       rotate_left
       ·go_simp
        rfl
       refine hK.out _ _ ?_
       clear hK K
       refine done_ (by kernel_rfl) ?_
       obtain ⟨HNA11,HKP11⟩:=NetAt.put HRD.out HR.out HG.out
       have hB1w:B1<W9.heap.size:=HWY9.out.2.2
       have hB1m:B1≠mb:=by have:=HN.out.lt;have:=HBW.out;omega
       have HWYB:=Aside0.mk (HWY9.out.heap (w1:=w11) (HG.out.block B1 hB1w (fun e=>hB1m (Option.some.inj e))) (by rw [HZ2.out];exact hB1w))
       have HNB:=hid HNA11
       have HKB:=hid ((HKP9.out.trans (NetKeep.of (below_drew1 (Below.refl W9.heap.size W9)) HNA9.out.base)).trans HKP11)
       clear HNA11 HKP11 hB1w hB1m HR HG HZ2 HS4 hE hS
       have k0:=(HWYB.out.1 v hv).1
       have k1:=(HWYB.out.1 v hv).2
       obtain ⟨hp2,_⟩:=(HT.out.next (t:=t) (i:=i) (by rw [← HV.out];exact hv) (by rw [← HV.out];exact HVW.out) (by rw [← HV.out];exact HVS.out)).2
       rw [← HV.out,← HPI.out] at hp2
       rw [hp2] at k0 k1
       clear hp2
       go_wp2
       go_roundg (d p1)
       case rel =>
        refine ⟨i+1,p1,n2+1+1,upd M3 v p1 (x3+m),rfl,⟨HPI.out⟩,hp1,⟨HP4.out⟩,Nat.le_refl _,by have:=HP5.out;omega,⟨?_⟩,⟨HNB.out⟩,⟨HKB.out⟩,HWYB⟩
        have h:=HAU.out.step hv hp1 HP5.out (by omega) HML.out
        rw [← HM3.out,← HX.out] at h
        exact h
       case measure=>have:=HP5.out;omega
      ·have t2:(x2-m == 0)=false:=by rw [beq_eq_false_iff_ne];exact hy
       clear hy
       go_wp2_with (fail)
       go_quiet (fail)
       obtain ⟨W9,hW9⟩:∃ W9,W9=w7.drewN nq:=⟨_,rfl⟩
       have hb9:Below w7.heap.size w7 W9:=by rw [hW9];exact pw_below_drewN (Below.refl _ _) nq
       rw [← hW9]
       clear hW9 q0 b0 b1 hlook
       have HNA9:=hid (HNA7.out.below hb9)
       have HKP9:=hid (HKP7.out.trans (NetKeep.of hb9 HNA7.out.base))
       have HWY9:=Aside0.mk (HWY7.out.below hb9)
       have HBX9:=hid (show W9.heap[gb]?=some (.cells #[.int .i64 p1,.int .i64 v] 218 (0,0)) from (hb9.block gb (lt_of_some HBX7.out)).trans HBX7.out)
       clear HNA7 HKP7 HWY7 HBX7 hb9
       go_wp2_with (fail)
       have q0:W9.cell? ⟨nb,0,none⟩=some (.map (some mb)):=HNA9.out.cells.1
       have HRD:=hid (HNA9.out.below (below_drew1 (Below.refl W9.heap.size W9)))
       obtain ⟨x3,hx3⟩:∃ x3,x3=M3 v p1:=⟨_,rfl⟩
       have hx4:0≤x3∧x3+m≤1000000000:=by rw [hx3];exact HX3.out
       have hlook:=HRD.out.room.look (u:=v) (v:=p1) (by omega) (by omega)
       unfold arcV at hlook
       rw [← hx3] at hlook
       have HX:=hid hx3
       clear hx3
       obtain ⟨v5,st5,w10,w11,hE,hS,hR,hg,hz1,hz2⟩:=HRD.out.room.entry (by unfold maxLen;omega) (u:=v) (v:=p1) (x:=x3+m) (by omega) (by omega) (wfN (by omega) (by omega))
       obtain ⟨hM6,hg6⟩:=HRD.out.room.entryMid (by unfold maxLen;omega) (u:=v) (v:=p1) (by omega) (by omega) hE
       have hl6:=hM6.look (u:=v) (v:=p1) (by omega) (by omega)
       unfold arcV at hE hl6
       rw [← HX.out] at hl6
       replace hS:(Instr.entryStore 235 (.map (some mb)) (.int .i64 st5) (.int .i64 (x3+m))).run Tryz.prog w10=.ok () w11:=hS
       have hwr:IntKind.i64.wrap (x3+m)=x3+m:=IntWalk.i64_in _ (by omega)
       have HS4:=hid (show W9.drew.cell? ⟨nb,0,none⟩=some (.map (some mb))∧W9.drew.cell? ⟨gb,0,none⟩=some (.int .i64 p1)∧W9.drew.cell? ⟨gb,1,none⟩=some (.int .i64 v)∧(Instr.lookup 235 (.map (some mb)) (.agg #[.int .i64 (v:Int),.int .i64 (p1:Int)]) false).run Tryz.prog W9.drew=.ok (.int .i64 x3) W9.drew from ⟨q0,by show W9.cell? _=_;simp [World.cell?,HBX9.out],by show W9.cell? _=_;simp [World.cell?,HBX9.out],hlook⟩)
       have HS6:=hid (show w10.cell? ⟨nb,0,none⟩=some (.map (some mb))∧w10.cell? ⟨gb,0,none⟩=some (.int .i64 p1)∧w10.cell? ⟨gb,1,none⟩=some (.int .i64 v)∧(Instr.lookup 235 (.map (some mb)) (.agg #[.int .i64 (v:Int),.int .i64 (p1:Int)]) false).run Tryz.prog w10=.ok (.int .i64 x3) w10 from ⟨grown_cell hg6 HS4.out.1 HNA9.out.nbm,grown_cell hg6 HS4.out.2.1 hgbm,grown_cell hg6 HS4.out.2.2.1 hgbm,hl6⟩)
       clear hM6 hg6 hl6
       have HR:=hid hR
       have HG:=hid hg
       have HZ2:=hid hz2
       clear hR hg hlook hz1 hz2 q0
       refine start_ (n:=15) (S:=fun w'=>w'.cell? ⟨nb,0,none⟩=some (.map (some mb))∧w'.cell? ⟨gb,0,none⟩=some (.int .i64 p1)∧w'.cell? ⟨gb,1,none⟩=some (.int .i64 v)∧(Instr.lookup 235 (.map (some mb)) (.agg #[.int .i64 (v:Int),.int .i64 (p1:Int)]) false).run Tryz.prog w' = .ok (.int .i64 x3) w') (ds:=[14]) #[false,false,false,false,false,false,false,false,false,false,false,false,false,false,false] (by kernel_rfl) rfl rfl HS4.out (fun hHeld=>?_)
       refine pure_ (i:=0) (N:=some 86) (v:=?_) (a':=?_) #[true,false,false,false,false,false,false,false,false,false,false,false,false,false,false] rfl rfl (by kernel_rfl) (fun _ _ _ h=>h) (Or.inl ⟨by rfl,?_⟩) ?_ ?_
       rotate_left
       ·intro w'
        go_simp
        with_reducible rfl
       rotate_left
       ·simp only [Act.put,sp__,i64_w,i32_w]
        rfl
       refine pure_ (i:=1) (N:=some 87) (v:=?_) (a':=?_) #[true,true,false,false,false,false,false,false,false,false,false,false,false,false,false] rfl rfl (by kernel_rfl) (fun _ _ _ h=>h) (Or.inl ⟨by rfl,?_⟩) ?_ ?_
       rotate_left
       ·intro w'
        go_simp
        with_reducible rfl
       rotate_left
       ·simp only [Act.put,sp__,i64_w,i32_w]
        rfl
       refine pure_ (i:=2) (N:=some 88) (v:=?_) (a':=?_) #[true,true,true,false,false,false,false,false,false,false,false,false,false,false,false] rfl rfl (by kernel_rfl) (fun _ _ _ h=>h) (Or.inl ⟨by rfl,?_⟩) ?_ ?_
       rotate_left
       ·intro w'
        go_simp
        with_reducible rfl
       rotate_left
       ·simp only [Act.put,sp__,i64_w,i32_w]
        rfl
       refine take_ (i:=3) (N:=some 89) (v:=?_) (a':=?_) #[true,true,true,true,false,false,false,false,false,false,false,false,false,false,false] rfl rfl (by kernel_rfl) (fun _ _ _ h=>h) (Or.inl ⟨by rfl,?_⟩) hHeld ?_ ?_
       rotate_left
       ·rintro w' ⟨s0,s1,s2,s3⟩
        go_simp
        with_reducible rfl
       rotate_left
       ·simp only [Act.put,sp__,i64_w,i32_w]
        rfl
       refine pure_ (i:=4) (N:=some 90) (v:=?_) (a':=?_) #[true,true,true,true,true,false,false,false,false,false,false,false,false,false,false] rfl rfl (by kernel_rfl) (fun _ _ _ h=>h) (Or.inl ⟨by rfl,?_⟩) ?_ ?_
       rotate_left
       ·intro w'
        go_simp
        with_reducible rfl
       rotate_left
       ·simp only [Act.put,sp__,i64_w,i32_w]
        rfl
       refine take_ (i:=5) (N:=some 91) (v:=?_) (a':=?_) #[true,true,true,true,true,true,false,false,false,false,false,false,false,false,false] rfl rfl (by kernel_rfl) (fun _ _ _ h=>h) (Or.inl ⟨by rfl,?_⟩) hHeld ?_ ?_
       rotate_left
       ·rintro w' ⟨s0,s1,s2,s3⟩
        go_simp
        with_reducible rfl
       rotate_left
       ·simp only [Act.put,sp__,i64_w,i32_w]
        rfl
       refine pure_ (i:=6) (N:=some 92) (v:=?_) (a':=?_) #[true,true,true,true,true,true,true,false,false,false,false,false,false,false,false] rfl rfl (by kernel_rfl) (fun _ _ _ h=>h) (Or.inl ⟨by rfl,?_⟩) ?_ ?_
       rotate_left
       ·intro w'
        go_simp
        with_reducible rfl
       rotate_left
       ·simp only [Act.put,sp__,i64_w,i32_w]
        rfl
       refine take_ (i:=7) (N:=some 93) (v:=?_) (a':=?_) #[true,true,true,true,true,true,true,true,false,false,false,false,false,false,false] rfl rfl (by kernel_rfl) (fun _ _ _ h=>h) (Or.inl ⟨by rfl,?_⟩) hHeld ?_ ?_
       rotate_left
       ·rintro w' ⟨s0,s1,s2,s3⟩
        go_simp
        with_reducible rfl
       rotate_left
       ·simp only [Act.put,sp__,i64_w,i32_w]
        rfl
       refine pure_ (i:=8) (N:=some 94) (v:=?_) (a':=?_) #[true,true,true,true,true,true,true,true,true,false,false,false,false,false,false] rfl rfl (by kernel_rfl) (fun _ _ _ h=>h) (Or.inl ⟨by rfl,?_⟩) ?_ ?_
       rotate_left
       ·intro w'
        go_simp
        with_reducible rfl
       rotate_left
       ·simp only [Act.put,sp__,i64_w,i32_w]
        rfl
       refine take_ (i:=9) (N:=some 95) (v:=?_) (a':=?_) #[true,true,true,true,true,true,true,true,true,true,false,false,false,false,false] rfl rfl (by kernel_rfl) (fun _ _ _ h=>h) (Or.inl ⟨by rfl,?_⟩) hHeld ?_ ?_
       rotate_left
       ·rintro w' ⟨s0,s1,s2,s3⟩
        go_simp
        with_reducible rfl
       rotate_left
       ·simp only [Act.put,sp__,i64_w,i32_w]
        rfl
       refine pure_ (i:=10) (N:=some 96) (v:=?_) (a':=?_) #[true,true,true,true,true,true,true,true,true,true,true,false,false,false,false] rfl rfl (by kernel_rfl) (fun _ _ _ h=>h) (Or.inl ⟨by rfl,?_⟩) ?_ ?_
       rotate_left
       ·intro w'
        go_simp
        with_reducible rfl
       rotate_left
       ·simp only [Act.put,sp__,i64_w,i32_w]
        rfl
       refine pure_ (i:=11) (N:=some 97) (v:=?_) (a':=?_) #[true,true,true,true,true,true,true,true,true,true,true,true,false,false,false] rfl rfl (by kernel_rfl) (fun _ _ _ h=>h) (Or.inl ⟨by rfl,?_⟩) ?_ ?_
       rotate_left
       ·intro w'
        go_simp
        with_reducible rfl
       rotate_left
       ·simp only [Act.put,sp__,i64_w,i32_w]
        rfl
       refine one_ (i:=12) (N:=some 98) #[true,true,true,true,true,true,true,true,true,true,true,true,true,false,false] rfl rfl (by kernel_rfl) (by decide) (fun K hK=>?_)
       refine value_ (w1:=?_) (v:=?_) (by rfl) rfl ?_ ?_
       rotate_left 2
       ·go_simp
        first|(refine ⟨?_,?_⟩ <;> rfl)|rfl
       refine hK.out _ _ HS6.out (fun hHeld=>?_)
       clear hK K
       refine norm_ (a':=?_) ?_ ?_
       rotate_left
       ·show Act.put _ (some 98) _=_
        simp only [Act.put,sp__,i64_w,i32_w]
        rfl
       refine pure_ (i:=13) (N:=some 99) (v:=?_) (a':=?_) #[true,true,true,true,true,true,true,true,true,true,true,true,true,true,false] rfl rfl (by kernel_rfl) (fun _ _ _ h=>h) (Or.inl ⟨by rfl,?_⟩) ?_ ?_
       rotate_left
       ·intro w'
        go_simp
        with_reducible rfl
       rotate_left
       ·simp only [Act.put,sp__,i64_w,i32_w]
        rfl
       refine last_ (i:=14) (N:=none) #[true,true,true,true,true,true,true,true,true,true,true,true,true,true,true] rfl rfl (by kernel_rfl) (by decide) (fun K hK=>?_)
       refine skip_ (w1:=?_) (by rfl) rfl ?_ ?_
       rotate_left
       ·go_simp
        rfl
       refine hK.out _ _ ?_
       clear hK K
       refine done_ (by kernel_rfl) ?_
       obtain ⟨HNA11,HKP11⟩:=NetAt.put HRD.out HR.out HG.out
       have hB1w:B1<W9.heap.size:=HWY9.out.2.2
       have hB1m:B1≠mb:=by have:=HN.out.lt;have:=HBW.out;omega
       have HWYB:=Aside0.mk (HWY9.out.heap (w1:=w11) (HG.out.block B1 hB1w (fun e=>hB1m (Option.some.inj e))) (by rw [HZ2.out];exact hB1w))
       have HNB:=hid HNA11
       have HKB:=hid ((HKP9.out.trans (NetKeep.of (below_drew1 (Below.refl W9.heap.size W9)) HNA9.out.base)).trans HKP11)
       clear HNA11 HKP11 hB1w hB1m HR HG HZ2 HS4 hE hS
       have k0:=(HWYB.out.1 v hv).1
       have k1:=(HWYB.out.1 v hv).2
       obtain ⟨hp2,_⟩:=(HT.out.next (t:=t) (i:=i) (by rw [← HV.out];exact hv) (by rw [← HV.out];exact HVW.out) (by rw [← HV.out];exact HVS.out)).2
       rw [← HV.out,← HPI.out] at hp2
       rw [hp2] at k0 k1
       clear hp2
       go_wp2
       go_roundg (d p1)
       case rel =>
        refine ⟨i+1,p1,n2+1+1,upd M3 v p1 (x3+m),rfl,⟨HPI.out⟩,hp1,⟨HP4.out⟩,Nat.le_refl _,by have:=HP5.out;omega,⟨?_⟩,⟨HNB.out⟩,⟨HKB.out⟩,HWYB⟩
        have h:=HAU.out.step hv hp1 HP5.out (by omega) HML.out
        rw [← HM3.out,← HX.out] at h
        exact h
       case measure=>have:=HP5.out;omega
   ·have d1:((v:Int) != (s:Int))=true:=bne_iff_ne.2 (by omega)
    obtain ⟨hp1,hp2,hp3,hp4,hp5⟩:=HT.out.next (t:=t) (i:=i) (by rw [← HV.out];exact hv) (by rw [← HV.out];exact HVW.out) (by rw [← HV.out];exact hvs)
    have HN1:=hid (HN.out.below (by rw [← HBW.out];exact HBL.out))
    have q0:wr.cell? ⟨nb,0,none⟩=some (.map (some mb)):=HN1.out.cells.1
    have k0:=(HWY.out.1 v hv).1
    have k1:=(HWY.out.1 v hv).2
    rw [← HV.out] at hp2 hp3 hp5
    obtain ⟨p1,hp⟩:∃ p1,p1=itP way t (i+1):=⟨_,rfl⟩
    rw [← hp] at hp1 hp2 hp3 hp4 hp5
    rw [hp2] at k0 k1
    have hlook:=HN1.out.room.lookN (u:=p1) (v:=v) (by omega) (by omega)
    have s0:(0:Int)≤(v:Int):=by omega
    have s1:(v:Int)<(N:Int):=by omega
    have HP4:=hid hp4
    have HPI:=hid hp
    clear hp hp4 hp2
    obtain ⟨m2,hm⟩:∃ m2,m2=M p1 v:=⟨_,rfl⟩
    rw [← hm] at hlook hp3
    have HM2:=hid hm
    clear hm
    go_wp2_with (fail)
    go_quiet (fail)
    go_wp2_with (fail)
    all_goals
     go_roundg (d p1)
     case rel =>
      refine ⟨i+1,p1,_,rfl,rfl,⟨HPI.out⟩,hp1,⟨HP4.out⟩,Nat.le_refl _,by omega,by omega,⟨fun j hj=>?_⟩,⟨HWY.out.below (pw_below_drewN (Below.refl _ _) nq)⟩,⟨HBL.out.trans ((pw_below_drewN (Below.refl wr.heap.size wr) nq).mono (Nat.le_of_lt HWY.out.2.2))⟩⟩
      rcases Nat.lt_or_ge j i with hji|hji
      ·have:=HLE.out j hji;omega
      ·have hje:j=i:=by omega
       rw [hje,← HPI.out,← HV.out,← HM2.out];omega
     case measure=>omega
end Go.Proofs.YtiioklboaookiaaGreatDoor.Q
namespace Go.Proofs.YtiioklboaookiaaGreatDoor.Q
open Go.RowKit Go.Proofs.YtiioklboaookiaaGreatDoorW.PrintWords Go.Proofs.YtiioklboaookiaaGreatDoorW.PrintLast Go.Proofs.YtiioklboaookiaaGreatDoor.Hand Go.Proofs.YtiioklboaookiaaGreatDoorW.PrintMore
attribute [local go_sem] max2_int min2_int max_two min_two max_three min_three max_four min_four
set_option linter.unusedVariables false
set_option linter.unusedSimpArgs false
theorem NoneAt.keep {B:Nat} {w w1:World} (h:NoneAt w) (hb:Below B w w1) (hB:1≤B):NoneAt w1:=⟨(hb.cell (by show 0<B;omega)).trans h.1,(hb.cell (by show 0<B;omega)).trans h.2⟩
structure Filled (M M' : Nat→Nat→Int) (N s t:Nat) (sum:Int):Prop where
 ge:0≤sum
 pos:∀ x y,0≤M' x y
 sym:∀ x y,M' x y+M' y x=M x y+M y x
 row:∀ x,x<N→x≠s→x≠t→rowS M' x N=rowS M x N
 rs:rowS M' s N=rowS M s N-sum
theorem Filled.push {M M' M'' : Nat→Nat→Int} {N s t:Nat} {sum most:Int} (h:Filled M M' N s t sum) (hs:s<N) (hst:t≠s) (k:Push M' M'' N s t most):Filled M M'' N s t (sum+most) where
 ge:=by have:=h.ge;have:=k.ge;omega
 pos:=k.pos
 sym:=fun x y=>by rw [k.sym,h.sym]
 row:=fun x hx h1 h2=>by rw [k.row x hx,if_neg h2,if_neg h1,h.row x hx h1 h2];omega
 rs:=by rw [k.row s hs,if_neg (fun e=>hst e.symm),if_pos rfl,h.rs];omega
set_option maxHeartbeats 8000000 in
set_option maxRecDepth 100000 in
theorem nfill_walk (nb mb xb B N n:Nat) (M:Nat→Nat→Int) (adj:Nat→List Nat) (vs:Nat→Value) (w:World) (s t R:Nat) (h:NetAt nb mb xb B N n M adj vs w) (hN:N≤1000) (hs:s<N) (ht:t<N) (hst:t≠s) (hz:NoneAt w) (hz0:1≤B) (hadj:∀ i,i<N→∀ u,u ∈ adj i→u<N) (hlen:∀ i,(adj i).length<1000000)
  (hpos:∀ x y,0≤M x y) (hbnd:∀ x y,M x y+M y x≤1000000000) (hR:rowS M s N=(R:Int)) (hR2:R≤1000000000) (hn:n+2*N*(R+1)<10000000000) :
  Calls Tryz.prog 69 #[.pointer (some ⟨nb,0,none⟩),.int .i64 s,.int .i64 t] w fun e w'=>∃ sum M' n',e=.returned (.int .i64 sum)∧Filled M M' N s t sum∧waysF M' adj N s t=(-1,-1)∧NetAt nb mb xb B N n' M' adj vs w'∧NetKeep B w w':=by
 have HZ:=hid hz
 have HADJ:=hid hadj
 have HLEN:=hid hlen
 have HBND:=hid hbnd
 have HR:=hid hR
 have HN:=Aside0.mk h
 have HF:Aside0 (Filled M M N s t 0):=⟨⟨by omega,hpos,fun _ _=>rfl,fun _ _ _ _=>rfl,by omega⟩⟩
 have HK:Aside0 (NetKeep B w w):=⟨NetKeep.refl _ _⟩
 clear h hz hadj hlen hpos hbnd hR
 go_enter Tryz.func69,Tryz.ntmps69
 go_wp2_with (fail)
 go_loopg [7] R (fun kq v7 w'=>∃ (M2:Nat→Nat→Int) (sum:Int) (n2:Nat),v7=.int .i64 sum∧sum+kq=R∧n2+2*N*kq≤n+2*N*R∧Aside0 (Filled M M2 N s t sum)∧Aside0 (NetAt nb mb xb B N n2 M2 adj vs w')∧Aside0 (NetKeep B w w'))
 case atStart=>exact ⟨M,0,n,rfl,by omega,Nat.le_refl _,HF,HN,HK⟩
 case round =>
  clear HF HN HK
  obtain ⟨M2,sum,n2,rfl,hs2,hn2,HF,HN,HK⟩:=hrel
  have hge:=HF.out.ge
  go_wp2_with (fail)
  have hmul:2*N*(R+1)=2*N*R+2*N:=Nat.mul_succ _ _
  refine (push_walk nb mb xb B N n2 M2 adj vs wr s t HN.out hN hs ht hst (HZ.out.keep HK.out.bel hz0) HADJ.out HLEN.out HF.out.pos (fun x y=>by rw [HF.out.sym];exact HBND.out x y) (by have:=Nat.le_trans (Nat.le_add_right n2 (2*N*gk)) hn2;omega)).mono ?_
  rintro e w1 (⟨hw,rfl,hb⟩ | ⟨hw,most,M3,rfl,hP,hN3,hK3⟩)
  ·have HW:=hid hw
   have HN2:=Aside0.mk (HN.out.below hb)
   have HK2:=Aside0.mk (HK.out.trans (NetKeep.of hb HN.out.base))
   clear hw hb
   go_wp2
   go_ret
   exact ⟨sum,M2,n2,rfl,HF.out,HW.out,HN2.out,HK2.out⟩
  ·have hm1:=hP.ge
   have hr0:0≤rowS M3 s N:=rowS_nonneg M3 s N (fun u=>hP.pos s u)
   have hr1:=(HF.out.push hs hst hP).rs
   rw [HR.out] at hr1
   have HF2:Aside0 (Filled M M3 N s t (sum+most)):=⟨HF.out.push hs hst hP⟩
   have HN2:=Aside0.mk hN3
   have HK2:=Aside0.mk (HK.out.trans hK3)
   clear hP hN3 hK3 hw
   have hwr:IntKind.i64.wrap (sum+most)=sum+most:=IntWalk.i64_in _ (by omega)
   obtain ⟨k2,hk2⟩:∃ k2,k2=gk-most.toNat:=⟨_,rfl⟩
   have hk3:k2+1≤gk:=by omega
   have hmm:2*N*(k2+1)≤2*N*gk:=Nat.mul_le_mul_left _ hk3
   rw [Nat.mul_succ] at hmm
   go_wp2
   go_roundg k2
   case rel=>exact ⟨M3,sum+most,n2+2*N,rfl,by omega,by omega,HF2,HN2,HK2⟩
   case measure=>omega
end Go.Proofs.YtiioklboaookiaaGreatDoor.Q
namespace Go.Proofs.YtiioklboaookiaaGreatDoor.Hand
open Go.RowKit Go.Proofs.YtiioklboaookiaaGreatDoorW.PrintWords Go.Proofs.YtiioklboaookiaaGreatDoorW.PrintLast Go.Proofs.YtiioklboaookiaaGreatDoorW.PrintMore
open Rs (xt pw_bd lg_pw pw_lg pw_mod)
attribute [local go_sem] max2_int min2_int max_two min_two max_three min_three max_four min_four
set_option linter.unusedVariables false
set_option linter.unusedSimpArgs false
structure Tab where
 T:Nat→Nat→Int
 S:Nat→Nat→Int × Int
def Tab.put (t:Tab) (x y:Nat) (v:Int) (s:Int × Int):Tab:=⟨fun i j=>if i=x∧j=y then v else t.T i j,fun i j=>if i=x∧j=y then s else t.S i j⟩
def Tab.imp (t:Tab) (x y:Nat) (v:Int) (s:Int × Int):Tab:=if t.T x y<v then t.put x y v s else t
def TabAt (b:Nat) (t:Tab) (w:World):Prop :=
 (∀ x y,x<49→y<49→w.cell? ⟨b,x*49+y,none⟩=some (.int .i64 (t.T x y))∧w.cell? ⟨b,2401+x*98+y*2,none⟩=some (.int .i64 (t.S x y).1)∧w.cell? ⟨b,2401+x*98+y*2+1,none⟩=some (.int .i64 (t.S x y).2)) ∧
 (∀ j,w.frozen? ⟨b,j,none⟩=false)∧b<w.heap.size
theorem TabAt.heap {b:Nat} {t:Tab} {w w1:World} (h:TabAt b t w) (he:w1.heap[b]?=w.heap[b]?) (hs:b<w1.heap.size):TabAt b t w1:=by
 obtain ⟨h1,h2,h3⟩:=h
 have hc:∀ j,w1.cell? ⟨b,j,none⟩=w.cell? ⟨b,j,none⟩:=fun j=>by unfold World.cell?;rw [he]
 have hf:∀ j,w1.frozen? ⟨b,j,none⟩=w.frozen? ⟨b,j,none⟩:=fun j=>by unfold World.frozen?;rw [he]
 exact ⟨fun x y hx hy=>by rw [hc,hc,hc];exact h1 x y hx hy,fun j=>by rw [hf];exact h2 j,hs⟩
theorem TabAt.below {b:Nat} {t:Tab} {w w1:World} (h:TabAt b t w) (hb:Below w.heap.size w w1):TabAt b t w1:=h.heap (hb.block b h.2.2) (Nat.lt_of_lt_of_le h.2.2 hb.size)
theorem TabAt.alloc {b:Nat} {t:Tab} {w:World} (h:TabAt b t w) (o:Obj):TabAt b t (w.alloc o):=h.below (below_alloc (Below.refl _ _) o)
theorem TabAt.drewN {b:Nat} {t:Tab} {w:World} (h:TabAt b t w) (m:Nat):TabAt b t (w.drewN m):=h
theorem TabAt.drew {b:Nat} {t:Tab} {w:World} (h:TabAt b t w):TabAt b t w.drew:=h
theorem TabAt.put {b:Nat} {t:Tab} {w:World} (h:TabAt b t w) (x y:Nat) (hx:x<49) (hy:y<49) (v:Int) (s:Int × Int) :
  TabAt b (t.put x y v s) (((w.setCell ⟨b,x*49+y,none⟩ (.int .i64 v)).setCell ⟨b,2401+x*98+y*2,none⟩ (.int .i64 s.1)).setCell ⟨b,2401+x*98+y*2+1,none⟩ (.int .i64 s.2)):=by
 have ne:∀ {i j:Nat},i≠j→(⟨b,i,none⟩:Addr)≠⟨b,j,none⟩:=fun h e=>h (by injection e)
 obtain ⟨h1,h2,h3⟩:=h
 obtain ⟨g1,g2,g3⟩:=h1 x y hx hy
 refine ⟨fun i j hi hj=>?_,fun j=>by simp [h2],by simpa using h3⟩
 obtain ⟨k1,k2,k3⟩:=h1 i j hi hj
 by_cases e:i=x∧j=y
 ·obtain ⟨rfl,rfl⟩:=e
  refine ⟨?_,?_,?_⟩
  ·rw [World.cell?_setCell_other _ _ _ _ (ne (by omega)),World.cell?_setCell_other _ _ _ _ (ne (by omega)),World.cell?_setCell_same _ _ _ g1]
   simp [Tab.put]
  ·rw [World.cell?_setCell_other _ _ _ _ (ne (by omega)),World.cell?_setCell_same _ _ _ (u:=.int .i64 (t.S i j).1) (by rw [World.cell?_setCell_other _ _ _ _ (ne (by omega))];exact g2)]
   simp [Tab.put]
  ·rw [World.cell?_setCell_same _ _ _ (u:=.int .i64 (t.S i j).2) (by rw [World.cell?_setCell_other _ _ _ _ (ne (by omega)),World.cell?_setCell_other _ _ _ _ (ne (by omega))];exact g3)]
   simp [Tab.put]
 ·refine ⟨?_,?_,?_⟩
  ·rw [World.cell?_setCell_other _ _ _ _ (ne (by omega)),World.cell?_setCell_other _ _ _ _ (ne (by omega)),World.cell?_setCell_other _ _ _ _ (ne (by omega)),k1]
   simp [Tab.put,e]
  ·rw [World.cell?_setCell_other _ _ _ _ (ne (by omega)),World.cell?_setCell_other _ _ _ _ (ne (by omega)),World.cell?_setCell_other _ _ _ _ (ne (by omega)),k2]
   simp [Tab.put,e]
  ·rw [World.cell?_setCell_other _ _ _ _ (ne (by omega)),World.cell?_setCell_other _ _ _ _ (ne (by omega)),World.cell?_setCell_other _ _ _ _ (ne (by omega)),k3]
   simp [Tab.put,e]
end Go.Proofs.YtiioklboaookiaaGreatDoor.Hand
namespace Go.Proofs.YtiioklboaookiaaGreatDoor.Q
open Go.RowKit Go.Proofs.YtiioklboaookiaaGreatDoorW.PrintWords Go.Proofs.YtiioklboaookiaaGreatDoorW.PrintLast Go.Proofs.YtiioklboaookiaaGreatDoor.Hand Go.Proofs.YtiioklboaookiaaGreatDoorW.PrintMore
attribute [local go_sem] max2_int min2_int max_two min_two max_three min_three max_four min_four
set_option linter.unusedVariables false
set_option linter.unusedSimpArgs false
def Tab.zero:Tab:=⟨fun _ _=>0,fun _ _=>(0,0)⟩
def BoxT (b:Nat) (W H:Nat) (v:Value) (w:World):Prop:=w.heap[b]?=some (.cells #[.int .i64 W,.int .i64 H,v] 78 (0,0))
theorem BoxT.below {b W H:Nat} {v:Value} {w w1:World} (h:BoxT b W H v w) (hb:Below (b+1) w w1):BoxT b W H v w1:=(hb.block b (by omega)).trans h
theorem BoxT.cells {b W H:Nat} {v:Value} {w:World} (h:BoxT b W H v w):w.cell? ⟨b,0,none⟩=some (.int .i64 W)∧w.cell? ⟨b,1,none⟩=some (.int .i64 H)∧w.cell? ⟨b,2,none⟩=some v:=by
 unfold BoxT at h;simp [World.cell?,h]
structure FillAt (b:Nat) (W H:Nat) (v:Value) (t:Tab) (w0 w:World):Prop where
 box:BoxT b W H v w
 tab:TabAt (b+1) t w
 bel:Below b w0 w
 lt:b+1<w.heap.size
theorem FillAt.step {b W H:Nat} {v:Value} {t t' : Tab} {w0 w w1:World} (h:FillAt b W H v t w0 w) (ht:TabAt (b+1) t' w1) (hb:Below (b+1) w w1):FillAt b W H v t' w0 w1 :=
 ⟨h.box.below hb,ht,h.bel.trans (hb.mono (Nat.le_succ b)),ht.2.2⟩
theorem FillAt.more {b W H:Nat} {v:Value} {t:Tab} {w0 w w1:World} (h:FillAt b W H v t w0 w) (hb:Below w.heap.size w w1):FillAt b W H v t w0 w1 :=
 h.step (h.tab.below hb) (hb.mono (Nat.le_of_lt h.lt))
theorem FillAt.drewN {b W H:Nat} {v:Value} {t:Tab} {w0 w:World} (h:FillAt b W H v t w0 w) (m:Nat):FillAt b W H v t w0 (w.drewN m):=h.more (pw_below_drewN (Below.refl _ _) m)
end Go.Proofs.YtiioklboaookiaaGreatDoor.Q
namespace Go.Proofs.YtiioklboaookiaaGreatDoor.Q
open Go.RowKit Go.Proofs.YtiioklboaookiaaGreatDoorW.PrintWords Go.Proofs.YtiioklboaookiaaGreatDoorW.PrintLast Go.Proofs.YtiioklboaookiaaGreatDoor.Hand Go.Proofs.YtiioklboaookiaaGreatDoorW.PrintMore
attribute [local go_sem] max2_int min2_int max_two min_two max_three min_three max_four min_four
set_option linter.unusedVariables false
set_option linter.unusedSimpArgs false
theorem within_yes {a lo hi:Int} (h1:lo≤a) (h2:a≤hi) (w:World):Calls Tryz.prog 49 #[.int .i64 a,.int .i64 lo,.int .i64 hi] w fun e w'=>e=.returned (.bool true)∧Drawn0 w w' :=
 carve_within.calls a lo hi true w (by unfold carve_within.f;rw [if_pos h1,decide_eq_true h2])
def blankOk (b:S76):Bool:=decide (1≤b.f0∧b.f0≤48∧1≤b.f1∧b.f1≤48∧0≤b.f2∧b.f2≤1048576)
theorem rd_mem {l:List S76} (i:Nat) (hi:i<l.length):rd_T76 l (i:Int) ∈ l:=by
 unfold rd_T76;rw [Int.toNat_natCast,List.getD_eq_getElem?_getD,List.getElem?_eq_getElem hi];exact List.getElem_mem hi
set_option maxHeartbeats 8000000 in
set_option maxRecDepth 100000 in
theorem newTask_walk (W H:Nat) (A0:Option Addr) (c0:Nat) (l:List S76) (w:World) (hW0:1≤W) (hW:W<49) (hH0:1≤H) (hH:H<49) (hl:l.length≤16) (hr:Kd.C k76 w A0 l.length l) (hv:∀ x,x ∈ l→blankOk x=true) :
  Calls Tryz.prog 24 #[.int .i64 W,.int .i64 H,.slice A0 l.length c0] w fun e w'=>e=.returned (.tuple #[.agg #[.int .i64 W,.int .i64 H,.slice A0 l.length c0],.int .i64 0])∧Below w.heap.size w w':=by
 have HR:=Aside0.mk hr
 have HV:=hid hv
 clear hr hv
 have d1:decide ((16:Int)<(l.length:Int))=false:=decide_eq_false (by omega)
 go_enter Tryz.func24,Tryz.ntmps24
 go_wp2_with (fail)
 refine (within_yes (a:=(W:Int)) (by omega) (by omega) _).mono ?_
 rintro e w1 ⟨rfl,⟨n1,rfl⟩⟩
 go_wp2_with (fail)
 refine (within_yes (a:=(H:Int)) (by omega) (by omega) _).mono ?_
 rintro e w1 ⟨rfl,⟨n2,rfl⟩⟩
 go_wp2_with (fail)
 have HB0:=Aside0.mk (show Below w.heap.size w (((w.alloc (.cells #[.int .i64 0,.int .i64 0,.slice none 0 0] 78)).drewN n1).drewN n2) from by repeat (first|exact Below.refl _ _|refine below_alloc ?_ _|refine pw_below_drewN ?_ _))
 have HC0:=Aside0.mk (show (((w.alloc (.cells #[.int .i64 0,.int .i64 0,.slice none 0 0] 78)).drewN n1).drewN n2).heap[w.heap.size]?=some (.cells #[.int .i64 0,.int .i64 0,.slice none 0 0] 78 (0,0)) from blk_new _ _)
 go_loopg [26] l.length (fun kq v26 w'=>∃ (k:Nat),v26=.int .i64 k∧k+kq=l.length∧Aside0 (w'.heap[w.heap.size]?=some (.cells #[.int .i64 0,.int .i64 0,.slice none 0 0] 78 (0,0)))∧Aside0 (Below w.heap.size w w'))
 case atStart=>exact ⟨0,rfl,by omega,by simpa using HC0,by simpa using HB0⟩
 case round =>
  clear HB0 HC0
  obtain ⟨k,rfl,hk,HC,HB⟩:=hrel
  by_cases hlt:k<l.length
  ·have d2:decide ((k:Int)<(l.length:Int))=true:=decide_eq_true (by omega)
   obtain ⟨ad,e0,hx0,hx1,hx2⟩:=at_T76 HR.out (k:Int) (by omega) (by omega)
   rw [Int.toNat_natCast] at hx0 hx1 hx2
   replace hx0:=(HB.out.cell (World.block_lt_of_cell? w _ hx0)).trans hx0
   replace hx1:=(HB.out.cell (World.block_lt_of_cell? w _ hx1)).trans hx1
   replace hx2:=(HB.out.cell (World.block_lt_of_cell? w _ hx2)).trans hx2
   cases e0
   have hlt' : (k:Int)<(l.length:Int):=by omega
   have k0:(0:Int)≤(k:Int):=by omega
   obtain ⟨b1,b2,b3,b4,b5,b6⟩:=of_decide_eq_true (HV.out _ (rd_mem k hlt))
   obtain ⟨bl,hbl⟩:∃ bl,bl=rd_T76 l (k:Int):=⟨_,rfl⟩
   rw [← hbl] at hx0 hx1 hx2 b1 b2 b3 b4 b5 b6
   clear hbl
   go_wp2_with (fail)
   refine (within_yes (a:=bl.f0) b1 b2 _).mono ?_
   rintro e w1 ⟨rfl,⟨m1,rfl⟩⟩
   go_wp2_with (fail)
   refine (within_yes (a:=bl.f1) b3 b4 _).mono ?_
   rintro e w1 ⟨rfl,⟨m2,rfl⟩⟩
   go_wp2_with (fail)
   refine (within_yes (a:=bl.f2) b5 b6 _).mono ?_
   rintro e w1 ⟨rfl,⟨m3,rfl⟩⟩
   go_wp2_with (fail)
   go_roundg (l.length-(k+1))
   case rel =>
    refine ⟨k+1,by go_num,by omega,⟨?_⟩,⟨by repeat (first|exact HB.out|refine below_alloc ?_ _|refine pw_below_drewN ?_ _)⟩⟩
    exact blk_alloc HC.out _
   case measure=>omega
  ·have d2:decide ((k:Int)<(l.length:Int))=false:=decide_eq_false (by omega)
   have q0:wr.cell? ⟨w.heap.size,0,none⟩=some (.int .i64 0):=by simp [World.cell?,HC.out]
   have q1:wr.cell? ⟨w.heap.size,1,none⟩=some (.int .i64 0):=by simp [World.cell?,HC.out]
   have q2:wr.cell? ⟨w.heap.size,2,none⟩=some (.slice none 0 0):=by simp [World.cell?,HC.out]
   have r0:∀ j,wr.frozen? ⟨w.heap.size,j,none⟩=false:=fun j=>by simp [World.frozen?,HC.out]
   go_wp2_with (fail)
   refine bodyPost_ret (results_ct rfl _ _ w.heap.size 78 #[.int .i64 W,.int .i64 H,.slice A0 l.length c0] (0,0) _ rfl ?_ Tryz.underlying78 rfl (by kernel_rfl)) rfl ?_
   ·refine blk_put (cs:=#[.int .i64 W,.int .i64 H,.slice none 0 0]) ?_ 2 _ rfl
    refine blk_put (cs:=#[.int .i64 W,.int .i64 0,.slice none 0 0]) ?_ 1 _ rfl
    exact blk_put (cs:=#[.int .i64 0,.int .i64 0,.slice none 0 0]) HC.out 0 _ rfl
   ·exact ⟨rfl,Below.setCell (p:=⟨w.heap.size,2,none⟩) (Below.setCell (p:=⟨w.heap.size,1,none⟩) (Below.setCell (p:=⟨w.heap.size,0,none⟩) HB.out (Nat.le_refl _) _) (Nat.le_refl _) _) (Nat.le_refl _) _⟩
end Go.Proofs.YtiioklboaookiaaGreatDoor.Q
namespace Go.Proofs.YtiioklboaookiaaGreatDoor.Q
open Go.RowKit Go.Proofs.YtiioklboaookiaaGreatDoorW.PrintWords Go.Proofs.YtiioklboaookiaaGreatDoorW.PrintLast Go.Proofs.YtiioklboaookiaaGreatDoor.Hand Go.Proofs.YtiioklboaookiaaGreatDoorW.PrintMore
attribute [local go_sem] max2_int min2_int max_two min_two max_three min_three max_four min_four
set_option linter.unusedVariables false
set_option linter.unusedSimpArgs false
set_option maxRecDepth 100000 in
theorem bwithin_yes {a lo hi:Int} (h1:lo≤a) (h2:a≤hi) (w:World):Calls Tryz.prog 64 #[.int .i64 a,.int .i64 lo,.int .i64 hi] w fun e w'=>e=.returned (.bool true)∧w' = w:=by
 have d1:decide (lo≤a)=true:=decide_eq_true h1
 have d2:decide (a≤hi)=true:=decide_eq_true h2
 clear h1 h2
 go_enter Tryz.func64,Tryz.ntmps64
 go_wp2_with (fail)
 go_ret
 exact ⟨rfl,rfl⟩
def jobOk (b:S76):Bool:=decide (0≤b.f0∧b.f0<b.f1∧b.f1≤1000∧1≤b.f2∧b.f2≤1000)
set_option maxHeartbeats 4000000 in
set_option maxRecDepth 100000 in
theorem isJob_yes (j:S76) (h:jobOk j=true) (w:World):Calls Tryz.prog 67 #[.agg #[.int .i64 j.f0,.int .i64 j.f1,.int .i64 j.f2]] w fun e w'=>e=.returned (.bool true)∧Below w.heap.size w w':=by
 obtain ⟨h1,h2,h3,h4,h5⟩:=of_decide_eq_true h
 have d1:decide (j.f0<j.f1)=true:=decide_eq_true h2
 clear h
 go_enter Tryz.func67,Tryz.ntmps67
 go_wp2_with (fail)
 refine (bwithin_yes (a:=j.f0) (by omega) (by omega) _).mono ?_
 rintro e w1 ⟨rfl,rfl⟩
 go_wp2_with (fail)
 refine (bwithin_yes (a:=j.f1) (by omega) (by omega) _).mono ?_
 rintro e w1 ⟨rfl,rfl⟩
 go_wp2_with (fail)
 refine (bwithin_yes (a:=j.f2) (by omega) (by omega) _).mono ?_
 rintro e w1 ⟨rfl,rfl⟩
 go_wp2_with (fail)
 go_ret
 exact ⟨rfl,below_alloc (Below.refl _ _) _⟩
set_option maxHeartbeats 4000000 in
set_option maxRecDepth 100000 in
theorem pred_no (j:S76) (h:jobOk j=true) (w:World):Calls Tryz.prog 66 #[.agg #[.int .i64 j.f0,.int .i64 j.f1,.int .i64 j.f2]] w fun e w'=>e=.returned (.bool false)∧Below w.heap.size w w':=by
 have H:=hid h
 clear h
 go_enter Tryz.func66,Tryz.ntmps66
 go_wp2_with (fail)
 refine (isJob_yes j H.out _).mono ?_
 rintro e w1 ⟨rfl,hb⟩
 have HB:=Aside0.mk hb
 clear hb
 go_wp2_with (fail)
 go_ret
 exact ⟨rfl,(below_alloc (Below.refl _ _) _).trans (HB.out.mono (by simp))⟩
set_option maxHeartbeats 4000000 in
set_option maxRecDepth 100000 in
theorem index_no (A0:Option Addr) (c0:Nat) (l:List S76) (w:World) (hl:l.length≤32) (hr:Kd.C k76 w A0 l.length l) (hv:∀ x,x ∈ l→jobOk x=true) :
  Calls Tryz.prog 98 #[.slice A0 l.length c0,.func (.func 66) #[] #[]] w fun e w'=>e=.returned (.int .i64 (-1))∧Below w.heap.size w w':=by
 have HR:=Aside0.mk hr
 have HV:=hid hv
 clear hr hv
 go_enter Tryz.func98,Tryz.ntmps98
 go_wp2_with (fail)
 go_loopg [8] l.length (fun kq v8 w'=>∃ (k:Nat),v8=.int .i64 k∧k+kq=l.length∧Aside0 (Below w.heap.size w w'))
 case atStart=>exact ⟨0,rfl,by omega,⟨Below.refl _ _⟩⟩
 case round =>
  obtain ⟨k,rfl,hk,HB⟩:=hrel
  by_cases hlt:k<l.length
  ·have d2:decide ((k:Int)<(l.length:Int))=true:=decide_eq_true (by omega)
   obtain ⟨ad,e0,hx0,hx1,hx2⟩:=at_T76 HR.out (k:Int) (by omega) (by omega)
   rw [Int.toNat_natCast] at hx0 hx1 hx2
   replace hx0:=(HB.out.cell (World.block_lt_of_cell? w _ hx0)).trans hx0
   replace hx1:=(HB.out.cell (World.block_lt_of_cell? w _ hx1)).trans hx1
   replace hx2:=(HB.out.cell (World.block_lt_of_cell? w _ hx2)).trans hx2
   cases e0
   have hlt' : (k:Int)<(l.length:Int):=by omega
   have k0:(0:Int)≤(k:Int):=by omega
   have HJ:=hid (HV.out _ (rd_mem k hlt))
   have HLT:=hid hlt
   obtain ⟨bl,hbl⟩:∃ bl,bl=rd_T76 l (k:Int):=⟨_,rfl⟩
   rw [← hbl] at hx0 hx1 hx2 HJ
   clear hbl hlt
   go_wp2_with (fail)
   refine (pred_no bl HJ.out _).mono ?_
   rintro e w1 ⟨rfl,hb⟩
   have HB2:Aside0 (Below w.heap.size w w1):=⟨HB.out.trans (hb.mono HB.out.size)⟩
   clear hb HB hx0 hx1 hx2
   go_wp2_with (fail)
   go_roundg (l.length-(k+1))
   case rel=>exact ⟨k+1,by go_num,by have:=HLT.out;omega,HB2⟩
   case measure=>have:=HLT.out;omega
  ·have d2:decide ((k:Int)<(l.length:Int))=false:=decide_eq_false (by omega)
   go_wp2_with (fail)
   go_ret
   exact ⟨rfl,HB.out⟩
set_option maxHeartbeats 4000000 in
set_option maxRecDepth 100000 in
theorem contains_no (A0:Option Addr) (c0:Nat) (l:List S76) (w:World) (hl:l.length≤32) (hr:Kd.C k76 w A0 l.length l) (hv:∀ x,x ∈ l→jobOk x=true) :
  Calls Tryz.prog 65 #[.slice A0 l.length c0,.func (.func 66) #[] #[]] w fun e w'=>e=.returned (.bool false)∧Below w.heap.size w w':=by
 have HR:=Aside0.mk hr
 have HV:=hid hv
 clear hr hv
 go_enter Tryz.func65,Tryz.ntmps65
 go_wp2_with (fail)
 refine (index_no A0 c0 l _ hl HR.out HV.out).mono ?_
 rintro e w1 ⟨rfl,hb⟩
 have HB:=Aside0.mk hb
 clear hb
 go_wp2_with (fail)
 go_ret
 exact ⟨rfl,HB.out⟩
set_option maxHeartbeats 4000000 in
set_option maxRecDepth 100000 in
theorem btask_walk (b:Nat) (A0:Option Addr) (c0:Nat) (l:List S76) (w:World) (hb1:1≤b) (hb2:b≤8) (hl:l.length≤32) (hr:Kd.C k76 w A0 l.length l) (hv:∀ x,x ∈ l→jobOk x=true) :
  Calls Tryz.prog 32 #[.int .i64 b,.slice A0 l.length c0] w fun e w'=>e=.returned (.tuple #[.agg #[.int .i64 b,.slice A0 l.length c0],.int .i64 0])∧Below w.heap.size w w':=by
 have HR:=Aside0.mk hr
 have HV:=hid hv
 clear hr hv
 have d1:decide ((32:Int)<(l.length:Int))=false:=decide_eq_false (by omega)
 go_enter Tryz.func32,Tryz.ntmps32
 go_wp2_with (fail)
 refine (bwithin_yes (a:=(b:Int)) (by omega) (by omega) _).mono ?_
 rintro e w1 ⟨rfl,rfl⟩
 go_wp2_with (fail)
 refine (contains_no A0 c0 l _ hl (Kd.C_below HR.out (below_alloc (Below.refl _ _) _)) HV.out).mono ?_
 rintro e w1 ⟨rfl,hb⟩
 have HB:=Aside0.mk ((below_alloc (Below.refl w.heap.size w) (.cells #[.int .i64 0,.slice none 0 0] 112)).trans (hb.mono (by simp)))
 have HC:=hid (show w1.heap[w.heap.size]?=some (.cells #[.int .i64 0,.slice none 0 0] 112 (0,0)) from (hb.block _ (by simp)).trans (blk_new _ _))
 clear hb
 have q0:w1.cell? ⟨w.heap.size,0,none⟩=some (.int .i64 0):=by simp [World.cell?,HC.out]
 have q1:w1.cell? ⟨w.heap.size,1,none⟩=some (.slice none 0 0):=by simp [World.cell?,HC.out]
 have r0:∀ j,w1.frozen? ⟨w.heap.size,j,none⟩=false:=fun j=>by simp [World.frozen?,HC.out]
 go_wp2_with (fail)
 refine bodyPost_ret (results_ct rfl _ _ w.heap.size 112 #[.int .i64 b,.slice A0 l.length c0] (0,0) _ rfl ?_ Tryz.underlying112 rfl (by kernel_rfl)) rfl ?_
 ·refine blk_put (cs:=#[.int .i64 b,.slice none 0 0]) ?_ 1 _ rfl
  exact blk_put (cs:=#[.int .i64 0,.slice none 0 0]) HC.out 0 _ rfl
 ·exact ⟨rfl,Below.setCell (p:=⟨w.heap.size,1,none⟩) (Below.setCell (p:=⟨w.heap.size,0,none⟩) HB.out (Nat.le_refl _) _) (Nat.le_refl _) _⟩
end Go.Proofs.YtiioklboaookiaaGreatDoor.Q
