/- A part of the proof: what the law's row needs. -/
import Derived.Deep.QuietTactic
import Derived.BigQuiet
import Derived.Laws.StructEq
import Derived.Laws.EntriesVeiled
import Derived.Test.YtiioklboaookiaaGreatDoorV7
namespace Go.Proofs.YtiioklboaookiaaGreatDoor.Q
open Go.RowKit Go.Proofs.YtiioklboaookiaaGreatDoorW.PrintWords Go.Proofs.YtiioklboaookiaaGreatDoorW.PrintLast Go.Proofs.YtiioklboaookiaaGreatDoor.Hand Go.Proofs.YtiioklboaookiaaGreatDoorW.PrintMore
attribute [local go_sem] max2_int min2_int max_two min_two max_three min_three max_four min_four
set_option linter.unusedVariables false
set_option linter.unusedSimpArgs false
set_option maxHeartbeats 8000000 in
set_option maxRecDepth 100000 in
theorem symm_t43 {c1_ c2_ c3_ c4_ c5_ c6_ c7_ c8_ c9_ c10_ c11_ tl:Code} (hb:Tryz.f172.body=some (c1_.seq (c2_.seq (c3_.seq (c4_.seq (c5_.seq (c6_.seq (c7_.seq (c8_.seq (c9_.seq (c10_.seq (c11_.seq tl)))))))))))) (g cap base N:Nat) (L:List Slt) (hN:N≤100000) (k a m b c i:Nat) (w wr:World) (ih:∀ (a m b:Nat) (w:World),b-a≤k→a<m→m<b→b≤N→PermAt g cap base N L w→Calls Tryz.prog 172 #[.slice (some ⟨g,0,none⟩) N cap,.int .i64 a,.int .i64 m,.int .i64 b,cmpV] w fun e w'=>e=.returned (.tuple #[])∧PermAt g cap base N L w'∧w.grownBy w' (some g)) (HN:Hid (a<m∧m<b∧b≤N∧b-a≤k+1∧a<c∧c<b∧a≤i∧i≤m∧i≤c∧c+m≤b+i)) (HPx:Hid (PermAt g cap base N L wr)) (HGx:Aside0 (w.grownBy wr (some g))) {u5 u6 u7 u8 u9 u10 u11 u12 u13 u14 u15 u16 u17 u21 u22 u23 u25 u26 u27 u28 u29 u30 u31 u32 u33 u34 u35 u36 u37 u38 u39 u40 u41 u42 u43 u44 u45 u46 u47 u48 u49 u50 u51 u52 u53 u54 u55 u56 u57 u58 u59 u60 u61 u62 u63 u64 u65 u66 u67 u68 u69 u70 u71 u72 u73 u74 u75 u76 u77 u78 u79 u80 u81 u82 u83 u84 u85 u86 u87 u88 u89 u90 u91 u92 u93 u94 u95 u96 u97 u98 u99 u100 u101 u102 u103 u104 u105 u106 u107 u108 u109 u110 u111 u112 u113 u114 u115 u116 u117 u118 u119 u120 u121 u122 u123 u124 u125 u126 u127 u128 u129 u130 u131 u132 u133 u134 u135 u136 u137 u138 u139 u140 u141 u142 u143 u144 u145 u146 u147 u148 u149 u150 u151 u152 u153 u154 u155 u156 u157 u158 u159 u160 u161 u162 u163 u164 u165 u166 u167 u168 u169 u170 u171 u172 u173 u174 u175 u176 u177 u178 u179 u180 u181 u182 u183 u184 u185 u186 u187 u188 u189 u190 u191 u192 u193 u194 u195 u196 u197 u198 u199 u200 u201 u202 u203 u204 u205 u206 u207 u208 u209 u210 u211 u212 u213 u214 u215 u216 u217 u218 u219:Value} :
  tl.wp Tryz.prog (bodyPost Tryz.prog Tryz.f172 fun e w'=>e=.returned (.tuple #[])∧PermAt g cap base N L w'∧w.grownBy w' (some g)) { tmps:=List.toArray (.slice (some ⟨g,0,none⟩) N cap::.int .i64 a::.int .i64 m::.int .i64 b::.func (.func 108) #[] #[]::u5::u6::u7::u8::u9::u10::u11::u12::u13::u14::u15::u16::u17::.int .i64 c::.int .i64 ((c:Int)+(m:Int))::.int .i64 i::u21::u22::u23::.int .i64 ((c:Int)+(m:Int)-(i:Int))::u25::u26::u27::u28::u29::u30::u31::u32::u33::u34::u35::u36::u37::u38::u39::u40::u41::u42::u43::u44::u45::u46::u47::u48::u49::u50::u51::u52::u53::u54::u55::u56::u57::u58::u59::u60::u61::u62::u63::u64::u65::u66::u67::u68::u69::u70::u71::u72::u73::u74::u75::u76::u77::u78::u79::u80::u81::u82::u83::u84::u85::u86::u87::u88::u89::u90::u91::u92::u93::u94::u95::u96::u97::u98::u99::u100::u101::u102::u103::u104::u105::u106::u107::u108::u109::u110::u111::u112::u113::u114::u115::u116::u117::u118::u119::u120::u121::u122::u123::u124::u125::u126::u127::u128::u129::u130::u131::u132::u133::u134::u135::u136::u137::u138::u139::u140::u141::u142::u143::u144::u145::u146::u147::u148::u149::u150::u151::u152::u153::u154::u155::u156::u157::u158::u159::u160::u161::u162::u163::u164::u165::u166::u167::u168::u169::u170::u171::u172::u173::u174::u175::u176::u177::u178::u179::u180::u181::u182::u183::u184::u185::u186::u187::u188::u189::u190::u191::u192::u193::u194::u195::u196::u197::u198::u199::u200::u201::u202::u203::u204::u205::u206::u207::u208::u209::u210::u211::u212::u213::u214::u215::u216::u217::u218::u219::[]),defers:=[] } wr:=by
 cases hb
 have HIH:=hid ih
 have HF:=hid (show (c:Int)+(m:Int)-(i:Int)=((c+m-i:Nat):Int) by have:=HN.out;omega)
 clear ih
 go_upto_region 43 with (fail)
 go_cut [213] (fun v213 wc=>∃ bb:Bool,v213=.bool bb∧Hid (bb=true→i<m∧c+m<b+i)∧Hid (PermAt g cap base N L wc)∧Aside0 (w.grownBy wc (some g)))
 case first =>
  have hnn:=HN.out
  have hi1:(i:Int)≤100000:=by omega
  have hb1:(b:Int)≤100000:=by omega
  by_cases q1:(c:Int)<(c:Int)+(m:Int)-(i:Int)
  ·by_cases q2:(c:Int)+(m:Int)-(i:Int)<(b:Int)
   ·clear hnn
    go_wp2_with (fail)
    go_meet
    case rel=>exact ⟨_,rfl,hid (fun _=>by have:=HN.out;omega),HPx,HGx⟩
   ·clear hnn
    go_wp2_with (fail)
    go_meet
    case rel=>exact ⟨_,rfl,hid (fun e=>absurd e (by first|exact Bool.false_ne_true|(simp;omega))),HPx,HGx⟩
  ·clear hnn
   go_wp2_with (fail)
   go_meet
   case rel=>exact ⟨_,rfl,hid (fun e=>absurd e (by first|exact Bool.false_ne_true|(simp;omega))),HPx,HGx⟩
 case rest =>
  clear HPx HGx
  obtain ⟨bb,rfl,HBB,HPx,HGx⟩:=hcut
  cases bb
  ·go_wp2_with (fail)
   go_end0
   exact ⟨rfl,HPx.out,HGx.out⟩
  ·have hbb:=HBB.out rfl
   have hr:=HIH.out c (c+m-i) b _ (by have:=HN.out;omega) (by have:=HN.out;omega) (by have:=HN.out;omega) (by have:=HN.out;omega) HPx.out
   rw [← HF.out] at hr
   unfold cmpV at hr
   have HRO:=hid hr
   clear hr
   go_wp2_with (fail)
   refine HRO.out.mono ?_
   rintro e w5 ⟨rfl,hP5,hg5⟩
   have HP5:=hid hP5
   have HG5:=Aside0.mk (HGx.out.trans hg5)
   clear hP5 hg5 HRO
   go_wp2_with (fail)
   go_end0
   exact ⟨rfl,HP5.out,HG5.out⟩
set_option maxHeartbeats 8000000 in
set_option maxRecDepth 100000 in
theorem symm_t41 {c1_ c2_ c3_ c4_ c5_ c6_ c7_ c8_ c9_ c10_ tl:Code} (hb:Tryz.f172.body=some (c1_.seq (c2_.seq (c3_.seq (c4_.seq (c5_.seq (c6_.seq (c7_.seq (c8_.seq (c9_.seq (c10_.seq tl))))))))))) (g cap base N:Nat) (L:List Slt) (hN:N≤100000) (k a m b c i:Nat) (w wr:World) (ih:∀ (a m b:Nat) (w:World),b-a≤k→a<m→m<b→b≤N→PermAt g cap base N L w→Calls Tryz.prog 172 #[.slice (some ⟨g,0,none⟩) N cap,.int .i64 a,.int .i64 m,.int .i64 b,cmpV] w fun e w'=>e=.returned (.tuple #[])∧PermAt g cap base N L w'∧w.grownBy w' (some g)) (HN:Hid (a<m∧m<b∧b≤N∧b-a≤k+1∧a<c∧c<b∧a≤i∧i≤m∧i≤c∧c+m≤b+i)) (HPx:Hid (PermAt g cap base N L wr)) (HGx:Aside0 (w.grownBy wr (some g))) {u5 u6 u7 u8 u9 u10 u11 u12 u13 u14 u15 u16 u17 u21 u22 u23 u25 u26 u27 u28 u29 u30 u31 u32 u33 u34 u35 u36 u37 u38 u39 u40 u41 u42 u43 u44 u45 u46 u47 u48 u49 u50 u51 u52 u53 u54 u55 u56 u57 u58 u59 u60 u61 u62 u63 u64 u65 u66 u67 u68 u69 u70 u71 u72 u73 u74 u75 u76 u77 u78 u79 u80 u81 u82 u83 u84 u85 u86 u87 u88 u89 u90 u91 u92 u93 u94 u95 u96 u97 u98 u99 u100 u101 u102 u103 u104 u105 u106 u107 u108 u109 u110 u111 u112 u113 u114 u115 u116 u117 u118 u119 u120 u121 u122 u123 u124 u125 u126 u127 u128 u129 u130 u131 u132 u133 u134 u135 u136 u137 u138 u139 u140 u141 u142 u143 u144 u145 u146 u147 u148 u149 u150 u151 u152 u153 u154 u155 u156 u157 u158 u159 u160 u161 u162 u163 u164 u165 u166 u167 u168 u169 u170 u171 u172 u173 u174 u175 u176 u177 u178 u179 u180 u181 u182 u183 u184 u185 u186 u187 u188 u189 u190 u191 u192 u193 u194 u195 u196 u197 u198 u199 u200 u201 u202 u203 u204 u205 u206 u207 u208 u209 u210 u211 u212 u213 u214 u215 u216 u217 u218 u219:Value} :
  tl.wp Tryz.prog (bodyPost Tryz.prog Tryz.f172 fun e w'=>e=.returned (.tuple #[])∧PermAt g cap base N L w'∧w.grownBy w' (some g)) { tmps:=List.toArray (.slice (some ⟨g,0,none⟩) N cap::.int .i64 a::.int .i64 m::.int .i64 b::.func (.func 108) #[] #[]::u5::u6::u7::u8::u9::u10::u11::u12::u13::u14::u15::u16::u17::.int .i64 c::.int .i64 ((c:Int)+(m:Int))::.int .i64 i::u21::u22::u23::.int .i64 ((c:Int)+(m:Int)-(i:Int))::u25::u26::u27::u28::u29::u30::u31::u32::u33::u34::u35::u36::u37::u38::u39::u40::u41::u42::u43::u44::u45::u46::u47::u48::u49::u50::u51::u52::u53::u54::u55::u56::u57::u58::u59::u60::u61::u62::u63::u64::u65::u66::u67::u68::u69::u70::u71::u72::u73::u74::u75::u76::u77::u78::u79::u80::u81::u82::u83::u84::u85::u86::u87::u88::u89::u90::u91::u92::u93::u94::u95::u96::u97::u98::u99::u100::u101::u102::u103::u104::u105::u106::u107::u108::u109::u110::u111::u112::u113::u114::u115::u116::u117::u118::u119::u120::u121::u122::u123::u124::u125::u126::u127::u128::u129::u130::u131::u132::u133::u134::u135::u136::u137::u138::u139::u140::u141::u142::u143::u144::u145::u146::u147::u148::u149::u150::u151::u152::u153::u154::u155::u156::u157::u158::u159::u160::u161::u162::u163::u164::u165::u166::u167::u168::u169::u170::u171::u172::u173::u174::u175::u176::u177::u178::u179::u180::u181::u182::u183::u184::u185::u186::u187::u188::u189::u190::u191::u192::u193::u194::u195::u196::u197::u198::u199::u200::u201::u202::u203::u204::u205::u206::u207::u208::u209::u210::u211::u212::u213::u214::u215::u216::u217::u218::u219::[]),defers:=[] } wr:=by
 cases hb
 have HIH:=hid ih
 have HF:=hid (show (c:Int)+(m:Int)-(i:Int)=((c+m-i:Nat):Int) by have:=HN.out;omega)
 clear ih
 refine wp_seq_k (fun K hK=>?_)
 go_cut [] (fun wc=>Hid (PermAt g cap base N L wc)∧Aside0 (w.grownBy wc (some g)))
 case first =>
  go_upto_region 41 with (fail)
  go_cut [199] (fun v199 wc=>∃ bb:Bool,v199=.bool bb∧Hid (bb=true→a<i∧i<c)∧Hid (PermAt g cap base N L wc)∧Aside0 (w.grownBy wc (some g)))
  case first =>
   have hnn:=HN.out
   have hi1:(i:Int)≤100000:=by omega
   have hb1:(b:Int)≤100000:=by omega
   by_cases q1:a<i
   ·by_cases q2:i<c
    ·clear hnn
     go_wp2_with (fail)
     go_meet
     case rel=>exact ⟨_,rfl,hid (fun _=>by have:=HN.out;omega),HPx,HGx⟩
    ·clear hnn
     go_wp2_with (fail)
     go_meet
     case rel=>exact ⟨_,rfl,hid (fun e=>absurd e (by first|exact Bool.false_ne_true|(simp;omega))),HPx,HGx⟩
   ·clear hnn
    go_wp2_with (fail)
    go_meet
    case rel=>exact ⟨_,rfl,hid (fun e=>absurd e (by first|exact Bool.false_ne_true|(simp;omega))),HPx,HGx⟩
  case rest =>
   clear HPx HGx
   obtain ⟨bb,rfl,HBB,HPx,HGx⟩:=hcut
   go_upto_if 199 with (fail)
   cases bb
   ·go_wp2_with (fail)
    go_meet
    case rel=>exact ⟨HPx,HGx⟩
   ·have hbb:=HBB.out rfl
    have hr:=HIH.out a i c _ (by have:=HN.out;omega) hbb.1 hbb.2 (by have:=HN.out;omega) HPx.out
    unfold cmpV at hr
    have HRO:=hid hr
    clear hr
    go_wp2_with (fail)
    refine HRO.out.mono ?_
    rintro e w5 ⟨rfl,hP5,hg5⟩
    have HP5:=hid hP5
    have HG5:=Aside0.mk (HGx.out.trans hg5)
    clear hP5 hg5 HRO
    go_wp2_with (fail)
    go_meet
    case rel=>exact ⟨HP5,HG5⟩
 case rest =>
  clear HPx HGx
  obtain ⟨HPx,HGx⟩:=hcut
  refine hK _ _ ?_
  clear hK
  exact symm_t43 rfl g cap base N L hN k a m b c i w wc HIH.out HN HPx HGx
set_option maxHeartbeats 8000000 in
set_option maxRecDepth 100000 in
theorem symm_t39 {c1_ c2_ c3_ c4_ c5_ c6_ c7_ c8_ c9_ tl:Code} (hb:Tryz.f172.body=some (c1_.seq (c2_.seq (c3_.seq (c4_.seq (c5_.seq (c6_.seq (c7_.seq (c8_.seq (c9_.seq tl)))))))))) (g cap base N:Nat) (L:List Slt) (hN:N≤100000) (k a m b c i:Nat) (w wr:World) (ih:∀ (a m b:Nat) (w:World),b-a≤k→a<m→m<b→b≤N→PermAt g cap base N L w→Calls Tryz.prog 172 #[.slice (some ⟨g,0,none⟩) N cap,.int .i64 a,.int .i64 m,.int .i64 b,cmpV] w fun e w'=>e=.returned (.tuple #[])∧PermAt g cap base N L w'∧w.grownBy w' (some g)) (HN:Hid (a<m∧m<b∧b≤N∧b-a≤k+1∧a<c∧c<b∧a≤i∧i≤m∧i≤c∧c+m≤b+i)) (HPx:Hid (PermAt g cap base N L wr)) (HGx:Aside0 (w.grownBy wr (some g))) {u5 u6 u7 u8 u9 u10 u11 u12 u13 u14 u15 u16 u17 u21 u22 u23 u25 u26 u27 u28 u29 u30 u31 u32 u33 u34 u35 u36 u37 u38 u39 u40 u41 u42 u43 u44 u45 u46 u47 u48 u49 u50 u51 u52 u53 u54 u55 u56 u57 u58 u59 u60 u61 u62 u63 u64 u65 u66 u67 u68 u69 u70 u71 u72 u73 u74 u75 u76 u77 u78 u79 u80 u81 u82 u83 u84 u85 u86 u87 u88 u89 u90 u91 u92 u93 u94 u95 u96 u97 u98 u99 u100 u101 u102 u103 u104 u105 u106 u107 u108 u109 u110 u111 u112 u113 u114 u115 u116 u117 u118 u119 u120 u121 u122 u123 u124 u125 u126 u127 u128 u129 u130 u131 u132 u133 u134 u135 u136 u137 u138 u139 u140 u141 u142 u143 u144 u145 u146 u147 u148 u149 u150 u151 u152 u153 u154 u155 u156 u157 u158 u159 u160 u161 u162 u163 u164 u165 u166 u167 u168 u169 u170 u171 u172 u173 u174 u175 u176 u177 u178 u179 u180 u181 u182 u183 u184 u185 u186 u187 u188 u189 u190 u191 u192 u193 u194 u195 u196 u197 u198 u199 u200 u201 u202 u203 u204 u205 u206 u207 u208 u209 u210 u211 u212 u213 u214 u215 u216 u217 u218 u219:Value} :
  tl.wp Tryz.prog (bodyPost Tryz.prog Tryz.f172 fun e w'=>e=.returned (.tuple #[])∧PermAt g cap base N L w'∧w.grownBy w' (some g)) { tmps:=List.toArray (.slice (some ⟨g,0,none⟩) N cap::.int .i64 a::.int .i64 m::.int .i64 b::.func (.func 108) #[] #[]::u5::u6::u7::u8::u9::u10::u11::u12::u13::u14::u15::u16::u17::.int .i64 c::.int .i64 ((c:Int)+(m:Int))::.int .i64 i::u21::u22::u23::.int .i64 ((c:Int)+(m:Int)-(i:Int))::u25::u26::u27::u28::u29::u30::u31::u32::u33::u34::u35::u36::u37::u38::u39::u40::u41::u42::u43::u44::u45::u46::u47::u48::u49::u50::u51::u52::u53::u54::u55::u56::u57::u58::u59::u60::u61::u62::u63::u64::u65::u66::u67::u68::u69::u70::u71::u72::u73::u74::u75::u76::u77::u78::u79::u80::u81::u82::u83::u84::u85::u86::u87::u88::u89::u90::u91::u92::u93::u94::u95::u96::u97::u98::u99::u100::u101::u102::u103::u104::u105::u106::u107::u108::u109::u110::u111::u112::u113::u114::u115::u116::u117::u118::u119::u120::u121::u122::u123::u124::u125::u126::u127::u128::u129::u130::u131::u132::u133::u134::u135::u136::u137::u138::u139::u140::u141::u142::u143::u144::u145::u146::u147::u148::u149::u150::u151::u152::u153::u154::u155::u156::u157::u158::u159::u160::u161::u162::u163::u164::u165::u166::u167::u168::u169::u170::u171::u172::u173::u174::u175::u176::u177::u178::u179::u180::u181::u182::u183::u184::u185::u186::u187::u188::u189::u190::u191::u192::u193::u194::u195::u196::u197::u198::u199::u200::u201::u202::u203::u204::u205::u206::u207::u208::u209::u210::u211::u212::u213::u214::u215::u216::u217::u218::u219::[]),defers:=[] } wr:=by
 cases hb
 have HIH:=hid ih
 have HF:=hid (show (c:Int)+(m:Int)-(i:Int)=((c+m-i:Nat):Int) by have:=HN.out;omega)
 clear ih
 refine wp_seq_k (fun K hK=>?_)
 go_cut [] (fun wc=>Hid (PermAt g cap base N L wc)∧Aside0 (w.grownBy wc (some g)))
 case first =>
  go_upto_region 39 with (fail)
  go_cut [185] (fun v185 wc=>∃ bb:Bool,v185=.bool bb∧Hid (bb=true→i<m∧i<c)∧Hid (PermAt g cap base N L wc)∧Aside0 (w.grownBy wc (some g)))
  case first =>
   have hnn:=HN.out
   have hi1:(i:Int)≤100000:=by omega
   have hb1:(b:Int)≤100000:=by omega
   by_cases q1:i<m
   ·by_cases q2:(m:Int)<(c:Int)+(m:Int)-(i:Int)
    ·clear hnn
     go_wp2_with (fail)
     go_meet
     case rel=>exact ⟨_,rfl,hid (fun _=>by have:=HN.out;omega),HPx,HGx⟩
    ·clear hnn
     go_wp2_with (fail)
     go_meet
     case rel=>exact ⟨_,rfl,hid (fun e=>absurd e (by first|exact Bool.false_ne_true|(simp;omega))),HPx,HGx⟩
   ·clear hnn
    go_wp2_with (fail)
    go_meet
    case rel=>exact ⟨_,rfl,hid (fun e=>absurd e (by first|exact Bool.false_ne_true|(simp;omega))),HPx,HGx⟩
  case rest =>
   clear HPx HGx
   obtain ⟨bb,rfl,HBB,HPx,HGx⟩:=hcut
   go_upto_if 185 with (fail)
   cases bb
   ·go_wp2_with (fail)
    go_meet
    case rel=>exact ⟨HPx,HGx⟩
   ·have hbb:=HBB.out rfl
    have hr:=rotate_walk cmpV g cap base N L _ i m (c+m-i) HPx.out hbb.1 (by have:=HN.out;omega) (by have:=HN.out;omega) hN
    rw [← HF.out] at hr
    unfold cmpV at hr
    have HRO:=hid hr
    clear hr
    go_wp2_with (fail)
    refine HRO.out.mono ?_
    rintro e w5 ⟨rfl,hP5,hg5⟩
    have HP5:=hid hP5
    have HG5:=Aside0.mk (HGx.out.trans hg5)
    clear hP5 hg5 HRO
    go_wp2_with (fail)
    go_meet
    case rel=>exact ⟨HP5,HG5⟩
 case rest =>
  clear HPx HGx
  obtain ⟨HPx,HGx⟩:=hcut
  refine hK _ _ ?_
  clear hK
  exact symm_t41 rfl g cap base N L hN k a m b c i w wc HIH.out HN HPx HGx
set_option maxHeartbeats 8000000 in
set_option maxRecDepth 100000 in
theorem symm_t38 {c1_ c2_ c3_ c4_ c5_ c6_ c7_ c8_ tl:Code} (hb:Tryz.f172.body=some (c1_.seq (c2_.seq (c3_.seq (c4_.seq (c5_.seq (c6_.seq (c7_.seq (c8_.seq tl))))))))) (g cap base N:Nat) (L:List Slt) (hN:N≤100000) (k a m b c i:Nat) (w wr:World) (ih:∀ (a m b:Nat) (w:World),b-a≤k→a<m→m<b→b≤N→PermAt g cap base N L w→Calls Tryz.prog 172 #[.slice (some ⟨g,0,none⟩) N cap,.int .i64 a,.int .i64 m,.int .i64 b,cmpV] w fun e w'=>e=.returned (.tuple #[])∧PermAt g cap base N L w'∧w.grownBy w' (some g)) (HN:Hid (a<m∧m<b∧b≤N∧b-a≤k+1∧a<c∧c<b∧a≤i∧i≤m∧i≤c∧c+m≤b+i)) (HPx:Hid (PermAt g cap base N L wr)) (HGx:Aside0 (w.grownBy wr (some g))) {u5 u6 u7 u8 u9 u10 u11 u12 u13 u14 u15 u16 u17 u21 u22 u23 u24 u25 u26 u27 u28 u29 u30 u31 u32 u33 u34 u35 u36 u37 u38 u39 u40 u41 u42 u43 u44 u45 u46 u47 u48 u49 u50 u51 u52 u53 u54 u55 u56 u57 u58 u59 u60 u61 u62 u63 u64 u65 u66 u67 u68 u69 u70 u71 u72 u73 u74 u75 u76 u77 u78 u79 u80 u81 u82 u83 u84 u85 u86 u87 u88 u89 u90 u91 u92 u93 u94 u95 u96 u97 u98 u99 u100 u101 u102 u103 u104 u105 u106 u107 u108 u109 u110 u111 u112 u113 u114 u115 u116 u117 u118 u119 u120 u121 u122 u123 u124 u125 u126 u127 u128 u129 u130 u131 u132 u133 u134 u135 u136 u137 u138 u139 u140 u141 u142 u143 u144 u145 u146 u147 u148 u149 u150 u151 u152 u153 u154 u155 u156 u157 u158 u159 u160 u161 u162 u163 u164 u165 u166 u167 u168 u169 u170 u171 u172 u173 u174 u175 u176 u177 u178 u179 u180 u181 u182 u183 u184 u185 u186 u187 u188 u189 u190 u191 u192 u193 u194 u195 u196 u197 u198 u199 u200 u201 u202 u203 u204 u205 u206 u207 u208 u209 u210 u211 u212 u213 u214 u215 u216 u217 u218 u219:Value} :
  tl.wp Tryz.prog (bodyPost Tryz.prog Tryz.f172 fun e w'=>e=.returned (.tuple #[])∧PermAt g cap base N L w'∧w.grownBy w' (some g)) { tmps:=List.toArray (.slice (some ⟨g,0,none⟩) N cap::.int .i64 a::.int .i64 m::.int .i64 b::.func (.func 108) #[] #[]::u5::u6::u7::u8::u9::u10::u11::u12::u13::u14::u15::u16::u17::.int .i64 c::.int .i64 ((c:Int)+(m:Int))::.int .i64 i::u21::u22::u23::u24::u25::u26::u27::u28::u29::u30::u31::u32::u33::u34::u35::u36::u37::u38::u39::u40::u41::u42::u43::u44::u45::u46::u47::u48::u49::u50::u51::u52::u53::u54::u55::u56::u57::u58::u59::u60::u61::u62::u63::u64::u65::u66::u67::u68::u69::u70::u71::u72::u73::u74::u75::u76::u77::u78::u79::u80::u81::u82::u83::u84::u85::u86::u87::u88::u89::u90::u91::u92::u93::u94::u95::u96::u97::u98::u99::u100::u101::u102::u103::u104::u105::u106::u107::u108::u109::u110::u111::u112::u113::u114::u115::u116::u117::u118::u119::u120::u121::u122::u123::u124::u125::u126::u127::u128::u129::u130::u131::u132::u133::u134::u135::u136::u137::u138::u139::u140::u141::u142::u143::u144::u145::u146::u147::u148::u149::u150::u151::u152::u153::u154::u155::u156::u157::u158::u159::u160::u161::u162::u163::u164::u165::u166::u167::u168::u169::u170::u171::u172::u173::u174::u175::u176::u177::u178::u179::u180::u181::u182::u183::u184::u185::u186::u187::u188::u189::u190::u191::u192::u193::u194::u195::u196::u197::u198::u199::u200::u201::u202::u203::u204::u205::u206::u207::u208::u209::u210::u211::u212::u213::u214::u215::u216::u217::u218::u219::[]),defers:=[] } wr:=by
 cases hb
 have HIH:=hid ih
 have HF:=hid (show (c:Int)+(m:Int)-(i:Int)=((c+m-i:Nat):Int) by have:=HN.out;omega)
 clear ih
 refine wp_seq_k (fun K hK=>?_)
 go_cut [24] (fun v24 wc=>v24=.int .i64 ((c:Int)+(m:Int)-(i:Int))∧Hid (PermAt g cap base N L wc)∧Aside0 (w.grownBy wc (some g)))
 case first =>
  have hnn:=HN.out
  have hi1:(i:Int)≤100000:=by omega
  have hb1:(c:Int)≤100000:=by omega
  have hm1:(m:Int)≤100000:=by omega
  clear hnn
  go_wp2_with (fail)
  go_meet
  case rel=>exact ⟨rfl,HPx,HGx⟩
 case rest =>
  clear HPx HGx
  obtain ⟨rfl,HPx,HGx⟩:=hcut
  refine hK _ _ ?_
  clear hK
  exact symm_t39 rfl g cap base N L hN k a m b c i w wc HIH.out HN HPx HGx
end Go.Proofs.YtiioklboaookiaaGreatDoor.Q
namespace Go.Proofs.YtiioklboaookiaaGreatDoor.Q
open Go.RowKit Go.Proofs.YtiioklboaookiaaGreatDoorW.PrintWords Go.Proofs.YtiioklboaookiaaGreatDoorW.PrintLast Go.Proofs.YtiioklboaookiaaGreatDoor.Hand Go.Proofs.YtiioklboaookiaaGreatDoorW.PrintMore
attribute [local go_sem] max2_int min2_int max_two min_two max_three min_three max_four min_four
set_option linter.unusedVariables false
set_option linter.unusedSimpArgs false
set_option maxHeartbeats 8000000 in
set_option maxRecDepth 100000 in
theorem symm_walk (g cap base N:Nat) (L:List Slt) (hN:N≤100000):∀ (k a m b:Nat) (w:World),b-a≤k→a<m→m<b→b≤N→PermAt g cap base N L w →
  Calls Tryz.prog 172 #[.slice (some ⟨g,0,none⟩) N cap,.int .i64 a,.int .i64 m,.int .i64 b,cmpV] w fun e w'=>e=.returned (.tuple #[])∧PermAt g cap base N L w'∧w.grownBy w' (some g):=by
 intro k
 induction k with
 | zero=>intro a m b w h1 h2 h3 _ _;omega
 | succ k ih =>
  intro a m b w hk ham hmb hbN h
  by_cases hfa:m=a+1
  ·exact symm_first g cap base N L hN a m b w ham hmb hbN h hfa
  by_cases hfb:b=m+1
  ·exact symm_second g cap base N L hN a m b w ham hmb hbN h hfa hfb
  have HP0:=hid h
  have HG0:Aside0 (w.grownBy w (some g)):=⟨World.grownBy.refl w _⟩
  have HIH:=hid ih
  clear h ih
  unfold cmpV
  have d0:((m:Int)-(a:Int) == 1)=false:=beq_eq_false_iff_ne.2 (by omega)
  have d1:((b:Int)-(m:Int) == 1)=false:=beq_eq_false_iff_ne.2 (by omega)
  obtain ⟨c,hc⟩:∃ c,c=(a+b) / 2:=⟨_,rfl⟩
  have ec:((a:Int)+(b:Int)) / 2=(c:Int):=by rw [half_nat,hc]
  have HC:=hid (show a<c∧c<b∧2*c≤a+b∧a+b≤2*c+1 by omega)
  have HK:=hid hk
  have b1:(b:Int)≤100000:=by omega
  have c1:(c:Int)≤100000:=by omega
  clear hfa hfb hc hk
  go_enter Tryz.func172,Tryz.ntmps172
  go_upto_if 140 with (fail)
  clear d0 d1 ec
  go_cut [20,21] (fun v20 v21 wc=>∃ (s0 r0:Nat),v20=.int .i64 s0∧v21=.int .i64 r0∧Hid (a≤s0∧s0≤r0∧r0≤m∧r0≤c∧c+m≤b+s0)∧Hid (PermAt g cap base N L wc)∧Aside0 (w.grownBy wc (some g)))
  case first =>
   by_cases hgt:c<m
   ·have hs0:(c:Int)+(m:Int)-(b:Int)=((c+m-b:Nat):Int):=by have:=HC.out;omega
    have HS0:=hid hs0
    clear hs0
    go_wp2_with (fail)
    go_meet
    case rel=>exact ⟨c+m-b,c,congrArg (Value.int .i64) HS0.out,rfl,hid (by have:=HC.out;omega),HP0,HG0⟩
   ·go_wp2_with (fail)
    go_meet
    case rel=>exact ⟨a,m,rfl,rfl,hid (by have:=HC.out;omega),HP0,HG0⟩
  case rest =>
   clear HP0 HG0
   obtain ⟨s0,r0,rfl,rfl,HS0,HP0,HG0⟩:=hcut
   go_upto_block 8 with (fail)
   go_cut [20] (fun v20 wc=>∃ i:Nat,v20=.int .i64 i∧Hid (s0≤i∧i≤r0)∧Hid (PermAt g cap base N L wc)∧Aside0 (w.grownBy wc (some g)))
   case first =>
    go_wp2_with (fail)
    go_loopg [20,21] (r0-s0) (fun kq v20 v21 w'=>∃ (i j:Nat),v20=.int .i64 i∧v21=.int .i64 j∧j-i≤kq∧i≤j∧Hid (s0≤i∧j≤r0)∧Hid (PermAt g cap base N L w')∧Aside0 (w.grownBy w' (some g)))
    case atStart=>exact ⟨s0,r0,rfl,rfl,Nat.le_refl _,by have:=HS0.out;omega,hid ⟨Nat.le_refl _,Nat.le_refl _⟩,HP0,HG0⟩
    case round =>
     clear HP0 HG0
     obtain ⟨i,j,rfl,rfl,hkq,hij,HI,HP,HG⟩:=hrel
     have j1:(j:Int)≤100000:=by have:=HI.out;have:=HS0.out;omega
     have i1:(i:Int)≤100000:=by omega
     by_cases hlt:i<j
     ·have HLT:=hid hlt
      obtain ⟨h,hh⟩:∃ h,h=(i+j) / 2:=⟨_,rfl⟩
      have eh:((i:Int)+(j:Int)) / 2=(h:Int):=by rw [half_nat,hh]
      have hc1:i≤h∧h<j:=by omega
      have HC1:=hid hc1
      obtain ⟨q,hq⟩:∃ q,q=c+m-1-h:=⟨_,rfl⟩
      have hfacts:h+1≤c+m∧q<N∧h<N:=by have:=HI.out;have:=HS0.out;have:=HC.out;omega
      have eq:(c:Int)+(m:Int)-1-(h:Int)=(q:Int):=by have:=hfacts;omega
      have h0:(0:Int)≤(h:Int):=by omega
      have hN1:(h:Int)<(N:Int):=by have:=hfacts;omega
      have q0:(0:Int)≤(q:Int):=by omega
      have qN1:(q:Int)<(N:Int):=by have:=hfacts;omega
      have h2:(h:Int)≤100000:=by have:=HC1.out;omega
      obtain ⟨x,y,hx,hy⟩:=HP.out.cells q h hfacts.2.1 hfacts.2.2
      have HS:=hid (show wr.drew.cell? ⟨g,q*4,none⟩=some (.int .i64 x.j)∧wr.drew.cell? ⟨g,q*4+1,none⟩=some (.int .i64 x.b)∧wr.drew.cell? ⟨g,q*4+2,none⟩=some (.int .i64 x.f)∧wr.drew.cell? ⟨g,q*4+3,none⟩=some (.int .i64 x.t)∧wr.drew.cell? ⟨g,h*4,none⟩=some (.int .i64 y.j)∧wr.drew.cell? ⟨g,h*4+1,none⟩=some (.int .i64 y.b)∧wr.drew.cell? ⟨g,h*4+2,none⟩=some (.int .i64 y.f)∧wr.drew.cell? ⟨g,h*4+3,none⟩=some (.int .i64 y.t) from ⟨hx.1,hx.2.1,hx.2.2.1,hx.2.2.2,hy.1,hy.2.1,hy.2.2.1,hy.2.2.2⟩)
      have wq:wrap64 (q:Int)=(q:Int):=w64_in _ (by omega) (by omega)
      clear hx hy hh hq hfacts hc1
      go_upto_region 35 with (fail)
      refine start_ (n:=14) (S:=fun w'=>w'.cell? ⟨g,q*4,none⟩=some (.int .i64 x.j)∧w'.cell? ⟨g,q*4+1,none⟩=some (.int .i64 x.b)∧w'.cell? ⟨g,q*4+2,none⟩=some (.int .i64 x.f)∧w'.cell? ⟨g,q*4+3,none⟩=some (.int .i64 x.t)∧w'.cell? ⟨g,h*4,none⟩=some (.int .i64 y.j)∧w'.cell? ⟨g,h*4+1,none⟩=some (.int .i64 y.b)∧w'.cell? ⟨g,h*4+2,none⟩=some (.int .i64 y.f)∧w'.cell? ⟨g,h*4+3,none⟩=some (.int .i64 y.t)) (ds:=[]) #[false,false,false,false,false,false,false,false,false,false,false,false,false,false] (by kernel_rfl) rfl rfl HS.out (fun hHeld=>?_)
      refine pure_ (i:=0) (N:=some 158) (v:=?_) (a':=?_) #[true,false,false,false,false,false,false,false,false,false,false,false,false,false] rfl rfl (by kernel_rfl) (fun _ _ _ h=>h) (Or.inl ⟨by rfl,?_⟩) ?_ ?_
      rotate_left
      ·intro w'
       go_simp
       with_reducible rfl
      rotate_left
      ·simp only [Act.put,sp__,i64_w,i32_w]
       rfl
      refine pure_ (i:=1) (N:=some 159) (v:=?_) (a':=?_) #[true,true,false,false,false,false,false,false,false,false,false,false,false,false] rfl rfl (by kernel_rfl) (fun _ _ _ h=>h) (Or.inl ⟨by rfl,?_⟩) ?_ ?_
      rotate_left
      ·intro w'
       go_simp
       with_reducible rfl
      rotate_left
      ·simp only [Act.put,sp__,i64_w,i32_w]
       rfl
      refine pure_ (i:=2) (N:=some 160) (v:=?_) (a':=?_) #[true,true,true,false,false,false,false,false,false,false,false,false,false,false] rfl rfl (by kernel_rfl) (fun _ _ _ h=>h) (Or.inl ⟨by rfl,?_⟩) ?_ ?_
      rotate_left
      ·intro w'
       go_simp
       with_reducible rfl
      rotate_left
      ·simp only [Act.put,sp__,i64_w,i32_w]
       rfl
      refine pure_ (i:=3) (N:=some 161) (v:=?_) (a':=?_) #[true,true,true,true,false,false,false,false,false,false,false,false,false,false] rfl rfl (by kernel_rfl) (fun _ _ _ h=>h) (Or.inl ⟨by rfl,?_⟩) ?_ ?_
      rotate_left
      ·intro w'
       go_simp
       with_reducible rfl
      rotate_left
      ·simp only [Act.put,sp__,i64_w,i32_w]
       rfl
      refine pure_ (i:=4) (N:=some 162) (v:=?_) (a':=?_) #[true,true,true,true,true,false,false,false,false,false,false,false,false,false] rfl rfl (by kernel_rfl) (fun _ _ _ h=>h) (Or.inl ⟨by rfl,?_⟩) ?_ ?_
      rotate_left
      ·intro w'
       go_simp
       with_reducible rfl
      rotate_left
      ·simp only [Act.put,sp__,i64_w,i32_w]
       rfl
      refine pure_ (i:=5) (N:=some 163) (v:=?_) (a':=?_) #[true,true,true,true,true,true,false,false,false,false,false,false,false,false] rfl rfl (by kernel_rfl) (fun _ _ _ h=>h) (Or.inl ⟨by rfl,?_⟩) ?_ ?_
      rotate_left
      ·intro w'
       go_simp
       with_reducible rfl
      rotate_left
      ·simp only [Act.put,sp__,i64_w,i32_w]
       rfl
      refine pure_ (i:=7) (N:=some 165) (v:=?_) (a':=?_) #[true,true,true,true,true,true,false,true,false,false,false,false,false,false] rfl rfl (by kernel_rfl) (fun _ _ _ h=>h) (Or.inl ⟨by rfl,?_⟩) ?_ ?_
      rotate_left
      ·intro w'
       go_simp
       with_reducible rfl
      rotate_left
      ·simp only [Act.put,sp__,i64_w,i32_w]
       rfl
      refine pure_ (i:=8) (N:=some 166) (v:=?_) (a':=?_) #[true,true,true,true,true,true,false,true,true,false,false,false,false,false] rfl rfl (by kernel_rfl) (fun _ _ _ h=>h) (Or.inl ⟨by rfl,?_⟩) ?_ ?_
      rotate_left
      ·intro w'
       go_simp
       with_reducible rfl
      rotate_left
      ·simp only [Act.put,sp__,i64_w,i32_w]
       rfl
      refine pure_ (i:=9) (N:=some 167) (v:=?_) (a':=?_) #[true,true,true,true,true,true,false,true,true,true,false,false,false,false] rfl rfl (by kernel_rfl) (fun _ _ _ h=>h) (Or.inl ⟨by rfl,?_⟩) ?_ ?_
      rotate_left
      ·intro w'
       go_simp
       with_reducible rfl
      rotate_left
      ·simp only [Act.put,sp__,i64_w,i32_w]
       rfl
      refine take_ (i:=6) (N:=some 164) (v:=?_) (a':=?_) #[true,true,true,true,true,true,true,true,true,true,false,false,false,false] rfl rfl (by kernel_rfl) (fun _ _ _ h=>h) (Or.inl ⟨by rfl,?_⟩) hHeld ?_ ?_
      rotate_left
      ·rintro w' ⟨s0,s1,s2,s3,s4,s5,s6,s7⟩
       go_simp
       with_reducible rfl
      rotate_left
      ·simp only [Act.put,sp__,i64_w,i32_w]
       rfl
      refine take_ (i:=10) (N:=some 168) (v:=?_) (a':=?_) #[true,true,true,true,true,true,true,true,true,true,true,false,false,false] rfl rfl (by kernel_rfl) (fun _ _ _ h=>h) (Or.inl ⟨by rfl,?_⟩) hHeld ?_ ?_
      rotate_left
      ·rintro w' ⟨s0,s1,s2,s3,s4,s5,s6,s7⟩
       go_simp
       with_reducible rfl
      rotate_left
      ·simp only [Act.put,sp__,i64_w,i32_w]
       rfl
      refine one_ (i:=11) (N:=some 169) #[true,true,true,true,true,true,true,true,true,true,true,true,false,false] rfl rfl (by kernel_rfl) (by decide) (fun K hK=>?_)
      refine goesC_ Tryz.func108 (by kernel_rfl) rfl #[.agg #[.int .i64 x.j,.int .i64 x.b,.int .i64 x.f,.int .i64 x.t],.agg #[.int .i64 y.j,.int .i64 y.b,.int .i64 y.f,.int .i64 y.t]] 158 (by rfl) rfl rfl (by rfl) (by (try simp only [List.map_toArray,List.map_cons,List.map_nil]);first|done|rfl) ?_
      refine (order_walk2 x y _).mono ?_
      rintro e w4 ⟨rfl,qd,os,rfl⟩
      have HP4:=hid (HP.out.drew.grow qd os)
      have HG4:=Aside0.mk ((grown_drew HG.out).trans (grow_grown wr.drew qd os (some g)))
      refine ⟨_,rfl,?_⟩
      refine hK.out _ _ ⟨pw_cell_below (grow_below _ _ _) HS.out.1,pw_cell_below (grow_below _ _ _) HS.out.2.1,pw_cell_below (grow_below _ _ _) HS.out.2.2.1,pw_cell_below (grow_below _ _ _) HS.out.2.2.2.1,pw_cell_below (grow_below _ _ _) HS.out.2.2.2.2.1,pw_cell_below (grow_below _ _ _) HS.out.2.2.2.2.2.1,pw_cell_below (grow_below _ _ _) HS.out.2.2.2.2.2.2.1,pw_cell_below (grow_below _ _ _) HS.out.2.2.2.2.2.2.2⟩ (fun hHeld=>?_)
      clear hK K
      refine norm_ (a':=?_) ?_ ?_
      rotate_left
      ·show Act.put _ (some 169) _=_
       simp only [Act.put,sp__,i64_w,i32_w]
       rfl
      refine pure_ (i:=12) (N:=some 170) (v:=?_) (a':=?_) #[true,true,true,true,true,true,true,true,true,true,true,true,true,false] rfl rfl (by kernel_rfl) (fun _ _ _ h=>h) (Or.inl ⟨by rfl,?_⟩) ?_ ?_
      rotate_left
      ·intro w'
       go_simp
       with_reducible rfl
      rotate_left
      ·simp only [Act.put,sp__,i64_w,i32_w]
       rfl
      refine pure_ (i:=13) (N:=some 171) (v:=?_) (a':=?_) #[true,true,true,true,true,true,true,true,true,true,true,true,true,true] rfl rfl (by kernel_rfl) (fun _ _ _ h=>h) (Or.inl ⟨by rfl,?_⟩) ?_ ?_
      rotate_left
      ·intro w'
       go_simp
       with_reducible rfl
      rotate_left
      ·simp only [Act.put,sp__,i64_w,i32_w]
       rfl
      refine done_ (by kernel_rfl) ?_
      obtain ⟨w4,hw4⟩:∃ w4,w4=Go.Sort.grow (wr.drew.drewN qd) os:=⟨_,rfl⟩
      rw [← hw4] at HP4 HG4 hHeld ⊢
      clear hw4 hHeld HS HP HG wq eq eh
      go_wp2_with (fail)
      ·go_roundg (j-(h+1))
       case rel=>exact ⟨h+1,j,rfl,rfl,Nat.le_refl _,by have:=HC1.out;omega,hid (by have:=HC1.out;have:=HI.out;omega),HP4,HG4⟩
       case measure=>have:=HC1.out;omega
      ·go_roundg (h-i)
       case rel=>exact ⟨i,h,rfl,rfl,Nat.le_refl _,by have:=HC1.out;omega,hid (by have:=HC1.out;have:=HI.out;omega),HP4,HG4⟩
       case measure=>have:=HC1.out;have:=HLT.out;omega
     ·have HB:=hid (show s0≤i∧i≤r0 by have:=HI.out;omega)
      go_wp2_with (fail)
      go_meet
      case rel=>exact ⟨i,rfl,HB,HP,HG⟩
   case rest =>
    clear HP0 HG0
    obtain ⟨i,rfl,HB,HP,HG⟩:=hcut
    rename (∀ (a:Act) (w:World),Code.wp Tryz.prog _ _ a w→_)=>hK
    refine hK _ _ ?_
    clear hK
    exact symm_t38 rfl g cap base N L hN k a m b c i w wc HIH.out (hid (by have:=HS0.out;have:=HB.out;have:=HC.out;have:=HK.out;omega)) HP HG
end Go.Proofs.YtiioklboaookiaaGreatDoor.Q
namespace Go.Proofs.YtiioklboaookiaaGreatDoor.Q
open Go.RowKit Go.Proofs.YtiioklboaookiaaGreatDoorW.PrintWords Go.Proofs.YtiioklboaookiaaGreatDoorW.PrintLast Go.Proofs.YtiioklboaookiaaGreatDoor.Hand Go.Proofs.YtiioklboaookiaaGreatDoorW.PrintMore
attribute [local go_sem] max2_int min2_int max_two min_two max_three min_three max_four min_four
set_option linter.unusedVariables false
set_option linter.unusedSimpArgs false
theorem ins_perm (g cap base N:Nat) (L:List Slt) (w:World) (a b:Nat) (h:PermAt g cap base N L w) (hab:a≤b) (hb:b≤N) (hN:N≤100000) :
  Calls Tryz.prog 171 #[.slice (some ⟨g,0,none⟩) N cap,.int .i64 a,.int .i64 b,cmpV] w fun e w'=>e=.returned (.tuple #[])∧PermAt g cap base N L w'∧w.grownBy w' (some g):=by
 obtain ⟨L',h1,h2,h3⟩:=h
 subst h2
 refine (ins_walk g cap base L' w a b h3 hab hb (by omega)).mono ?_
 rintro e w' ⟨rfl,L2,p2,r2,g2⟩
 refine ⟨rfl,⟨L2,p2.trans h1,p2.length_eq,?_⟩,g2⟩
 rw [p2.length_eq] at r2
 exact r2
set_option maxHeartbeats 4000000 in
set_option maxRecDepth 100000 in
theorem stable_walk (g cap base:Nat) (L:List Slt) (w:World) (h:Kd.R kSlt 72 w base (fun _=>True) (.slice (some ⟨g,0,none⟩) L.length cap) L) (hbase:base≤w.heap.size) (hl:L.length≤100000) :
  Calls Tryz.prog 146 #[.slice (some ⟨g,0,none⟩) L.length cap,.int .i64 L.length,.func (.func 108) #[] #[]] w fun e w'=>e=.returned (.tuple #[]) ∧
   ∃ L',L'.Perm L∧Kd.R kSlt 72 w' base (fun _=>True) (.slice (some ⟨g,0,none⟩) L'.length cap) L'∧Below base w w':=by
 have hgb:base≤g:=Kd.R_base h g rfl
 obtain ⟨n,hn⟩:∃ n,n=L.length:=⟨_,rfl⟩
 have HP0:=hid (show PermAt g cap base n L w from ⟨L,List.Perm.refl _,hn.symm,by rw [hn];exact h⟩)
 have HG0:Aside0 (w.grownBy w (some g)):=⟨World.grownBy.refl w _⟩
 have HFIN:=hid (show ∀ w',PermAt g cap base n L w'→w.grownBy w' (some g)→∃ L',L'.Perm L∧Kd.R kSlt 72 w' base (fun _=>True) (.slice (some ⟨g,0,none⟩) L'.length cap) L'∧Below base w w' from fun w' ⟨L',q1,q2,q3⟩ hg=>⟨L',q1,by rw [q2];exact q3,(Below.refl base w).grown hg hbase (fun k hk=>by injection hk with hk;rw [← hk];exact hgb)⟩)
 rw [← hn] at hl ⊢
 clear h hn hbase hgb
 go_enter Tryz.func146,Tryz.ntmps146
 go_wp2_with (fail)
 go_loopg [7,8] n (fun kq v7 v8 w'=>∃ (a:Nat),v7=.int .i64 a∧v8=.int .i64 ((a:Int)+20)∧a≤n∧n≤a+kq∧Hid (PermAt g cap base n L w')∧Aside0 (w.grownBy w' (some g)))
 case atStart=>exact ⟨0,rfl,rfl,by omega,by omega,HP0,HG0⟩
 case round =>
  clear HP0 HG0
  obtain ⟨a,rfl,rfl,ha,hk,HP,HG⟩:=hrel
  by_cases hlt:a+20≤n
  ·have d1:decide ((a:Int)+20≤(n:Int))=true:=decide_eq_true (by omega)
   have HLT:=hid hlt
   have hic:=ins_perm g cap base n L wr a (a+20) HP.out (by omega) hlt hl
   rw [show ((a+20:Nat):Int)=(a:Int)+20 by omega] at hic
   unfold cmpV at hic
   have HIC:=hid hic
   clear hic hlt
   go_wp2_with (fail)
   refine HIC.out.mono ?_
   rintro e w2 ⟨rfl,hP2,hg2⟩
   have HP2:=hid hP2
   have HG2:=Aside0.mk (HG.out.trans hg2)
   clear hP2 hg2 HIC
   go_wp2_with (fail)
   go_roundg (n-(a+20))
   case rel=>exact ⟨a+20,by go_num,by go_num,HLT.out,by have:=HLT.out;omega,HP2,HG2⟩
   case measure=>have:=HLT.out;omega
  ·have d1:decide ((a:Int)+20≤(n:Int))=false:=decide_eq_false (by omega)
   have hic:=ins_perm g cap base n L wr a n HP.out ha (Nat.le_refl _) hl
   unfold cmpV at hic
   have HIC:=hid hic
   clear hic
   go_wp2_with (fail)
   refine HIC.out.mono ?_
   rintro e w2 ⟨rfl,hP2,hg2⟩
   have HP2:=hid hP2
   have HG2:=Aside0.mk (HG.out.trans hg2)
   clear hP2 hg2 HIC HP HG ha hk hlt d1
   go_wp2_with (fail)
   go_loopg [6] n (fun kq v6 w'=>∃ bs:Nat,v6=.int .i64 bs∧1≤bs∧bs≤200000∧n≤bs+kq∧Hid (PermAt g cap base n L w')∧Aside0 (w.grownBy w' (some g)))
   case atStart=>exact ⟨20,rfl,by omega,by omega,by omega,HP2,HG2⟩
   case round =>
    clear HP2 HG2
    obtain ⟨bs,rfl,hb1,hb2,hbk,HP,HG⟩:=hrel
    by_cases hlt:bs<n
    ·have d2:decide ((bs:Int)<(n:Int))=true:=decide_eq_true (by omega)
     have HLT:=hid hlt
     go_wp2_with (fail)
     have HP3:=HP
     have HG3:=HG
     clear HP HG
     go_loopg [7,8] n (fun kq v7 v8 w'=>∃ (a:Nat),v7=.int .i64 a∧v8=.int .i64 ((a:Int)+2*(bs:Int))∧a≤n∧n≤a+kq∧Hid (PermAt g cap base n L w')∧Aside0 (w.grownBy w' (some g)))
     case atStart=>exact ⟨0,rfl,by go_num,by omega,by omega,HP3,HG3⟩
     case round =>
      clear HP3 HG3
      obtain ⟨a,rfl,rfl,ha,hk,HP,HG⟩:=hrel
      by_cases hle:a+2*bs≤n
      ·have d3:decide ((a:Int)+2*(bs:Int)≤(n:Int))=true:=decide_eq_true (by omega)
       have HLE:=hid hle
       have hsm:=symm_walk g cap base n L hl n a (a+bs) (a+2*bs) wr (by omega) (by omega) (by omega) hle HP.out
       rw [show ((a+bs:Nat):Int)=(a:Int)+(bs:Int) by omega,show ((a+2*bs:Nat):Int)=(a:Int)+2*(bs:Int) by omega] at hsm
       unfold cmpV at hsm
       have HSM:=hid hsm
       clear hsm
       go_wp2_with (fail)
       refine HSM.out.mono ?_
       rintro e w3 ⟨rfl,hP3,hg3⟩
       have HP3:=hid hP3
       have HG3:=Aside0.mk (HG.out.trans hg3)
       clear hP3 hg3 HSM
       go_wp2_with (fail)
       go_roundg (n-(a+2*bs))
       case rel=>exact ⟨a+2*bs,congrArg (Value.int .i64) (by omega),congrArg (Value.int .i64) (by omega),HLE.out,by have:=HLE.out;omega,HP3,HG3⟩
       case measure=>have:=HLE.out;omega
      ·have d3:decide ((a:Int)+2*(bs:Int)≤(n:Int))=false:=decide_eq_false (by omega)
       by_cases hm:a+bs<n
       ·have d4:decide ((a:Int)+(bs:Int)<(n:Int))=true:=decide_eq_true (by omega)
        have hsm:=symm_walk g cap base n L hl n a (a+bs) n wr (by omega) (by omega) hm (Nat.le_refl _) HP.out
        rw [show ((a+bs:Nat):Int)=(a:Int)+(bs:Int) by omega] at hsm
        unfold cmpV at hsm
        have HSM:=hid hsm
        clear hsm
        go_wp2_with (fail)
        refine HSM.out.mono ?_
        rintro e w3 ⟨rfl,hP3,hg3⟩
        have HP3:=hid hP3
        have HG3:=Aside0.mk (HG.out.trans hg3)
        clear hP3 hg3 HSM
        go_wp2_with (fail)
        go_roundg (n-2*bs)
        case rel=>exact ⟨2*bs,congrArg (Value.int .i64) (by omega),by omega,by have:=HLT.out;omega,by omega,HP3,HG3⟩
        case measure=>have:=HLT.out;omega
       ·have d4:decide ((a:Int)+(bs:Int)<(n:Int))=false:=decide_eq_false (by omega)
        go_wp2_with (fail)
        go_roundg (n-2*bs)
        case rel=>exact ⟨2*bs,congrArg (Value.int .i64) (by omega),by omega,by have:=HLT.out;omega,by omega,HP,HG⟩
        case measure=>have:=HLT.out;omega
    ·have d2:decide ((bs:Int)<(n:Int))=false:=decide_eq_false (by omega)
     go_wp2_with (fail)
     go_end0
     exact ⟨rfl,HFIN.out _ HP.out HG.out⟩
end Go.Proofs.YtiioklboaookiaaGreatDoor.Q
namespace Go.Proofs.YtiioklboaookiaaGreatDoor.Q
open Go.RowKit Go.Proofs.YtiioklboaookiaaGreatDoorW.PrintWords Go.Proofs.YtiioklboaookiaaGreatDoorW.PrintLast Go.Proofs.YtiioklboaookiaaGreatDoor.Hand Go.Proofs.YtiioklboaookiaaGreatDoorW.PrintMore
attribute [local go_sem] max2_int min2_int max_two min_two max_three min_three max_four min_four
set_option linter.unusedVariables false
set_option linter.unusedSimpArgs false
set_option maxHeartbeats 4000000 in
set_option maxRecDepth 100000 in
theorem ins_nil (w:World):Calls Tryz.prog 171 #[.slice none 0 0,.int .i64 0,.int .i64 0,.func (.func 108) #[] #[]] w fun e w'=>e=.returned (.tuple #[])∧w' = w:=by
 go_enter Tryz.func171,Tryz.ntmps171
 go_wp2_with (fail)
 go_loopg [8] 0 (fun kq v8 w'=>v8=.int .i64 1∧w' = w)
 case atStart=>exact ⟨rfl,rfl⟩
 case round =>
  obtain ⟨rfl,rfl⟩:=hrel
  go_wp2_with (fail)
  go_end0
  exact ⟨rfl,rfl⟩
set_option maxHeartbeats 4000000 in
set_option maxRecDepth 100000 in
theorem stable_nil (w:World):Calls Tryz.prog 146 #[.slice none 0 0,.int .i64 0,.func (.func 108) #[] #[]] w fun e w'=>e=.returned (.tuple #[])∧w' = w:=by
 go_enter Tryz.func146,Tryz.ntmps146
 go_wp2_with (fail)
 go_loopg [7,8] 0 (fun kq v7 v8 w'=>v7=.int .i64 0∧v8=.int .i64 20∧w' = w)
 case atStart=>exact ⟨rfl,rfl,rfl⟩
 case round =>
  obtain ⟨rfl,rfl,rfl⟩:=hrel
  go_wp2_with (fail)
  refine (ins_nil _).mono ?_
  rintro e w2 ⟨rfl,rfl⟩
  go_wp2_with (fail)
  go_loopg [6] 0 (fun kq v6 w'=>v6=.int .i64 20∧w' = w2)
  case atStart=>exact ⟨rfl,rfl⟩
  case round =>
   obtain ⟨rfl,rfl⟩:=hrel
   go_wp2_with (fail)
   go_end0
   exact ⟨rfl,rfl⟩
set_option maxHeartbeats 4000000 in
set_option maxRecDepth 100000 in
theorem stableFunc_walk (L:List Slt) (v:Value) (base:Nat) (w:World) (h:Kd.R kSlt 72 w base (fun _=>True) v L) (hbase:base≤w.heap.size) (hl:L.length≤100000) :
  Calls Tryz.prog 131 #[v,.func (.func 108) #[] #[]] w fun e w'=>e=.returned (.tuple #[]) ∧
   ∃ L',L'.Perm L∧Kd.R kSlt 72 w' base (fun _=>True) v L'∧Below base w w':=by
 obtain ⟨h0,inner,ho,hr⟩:=h
 rcases ho.2 with ⟨hv,hz⟩ | ⟨g,cap,cur,hv,hbg,hh,_⟩
 ·have hz2:L=[]:=List.length_eq_zero_iff.1 hz
  subst hz2 hv
  clear h0 hr ho
  go_enter Tryz.func131,Tryz.ntmps131
  go_wp2_with (fail)
  refine (stable_nil _).mono ?_
  rintro e w2 ⟨rfl,rfl⟩
  go_wp2_with (fail)
  go_end0
  exact ⟨rfl,[],List.Perm.refl _,Kd.R_nil _ _ _ _ _,Below.refl _ _⟩
 ·subst hv
  have HIC:=hid (stable_walk g cap base L w ⟨h0,inner,ho,hr⟩ hbase hl)
  clear h0 hr ho hh
  obtain ⟨n,hn⟩:∃ n,n=L.length:=⟨_,rfl⟩
  rw [← hn] at HIC ⊢
  have HN:=hid hn
  clear hn
  go_enter Tryz.func131,Tryz.ntmps131
  go_wp2_with (fail)
  refine HIC.out.mono ?_
  rintro e w2 ⟨rfl,L2,hp2,hr2,hb2⟩
  have HP2:=hid hp2
  have HR2:=Aside0.mk hr2
  have HB2:=Aside0.mk hb2
  clear hp2 hr2 hb2
  go_wp2_with (fail)
  go_end0
  refine ⟨rfl,L2,HP2.out,?_,HB2.out⟩
  have h:=HR2.out
  rw [HP2.out.length_eq,← HN.out] at h
  exact h
theorem Slt_empty (W:World) (base:Nat) (hb:base≤W.heap.size):Kd.R kSlt 72 (W.alloc (.cells #[] 72)) base (fun _=>True) (.slice (some ⟨W.heap.size,0,none⟩) 0 0) [] :=
 ⟨fun _ _=>trivial,[],⟨rfl,.inr ⟨W.heap.size,0,#[],rfl,hb,blk_new _ _,by simp,by decide,rfl,rfl⟩⟩,Reps.none _ _⟩
set_option maxHeartbeats 4000000 in
set_option maxRecDepth 100000 in
theorem clone_walk (L:List Slt) (v:Value) (base:Nat) (w:World) (h:Kd.R kSlt 72 w base (fun _=>True) v L) (hl:L.length≤100000) :
  Calls Tryz.prog 130 #[v] w fun e w'=>∃ v',e=.returned v'∧Kd.R kSlt 72 w' w.heap.size (fun _=>True) v' L∧Below w.heap.size w w':=by
 have hc:∃ A c,v=.slice A L.length c∧L.length≤c∧kSlt.C w A L.length L:=Kd.R_reads h
 obtain ⟨h0,inner,ho,hr⟩:=h
 rcases ho.2 with ⟨hv,hz⟩ | ⟨g,cap,cur,hv,hbg,hh,_⟩
 ·have hz2:L=[]:=List.length_eq_zero_iff.1 hz
  subst hz2 hv
  clear h0 hr ho hc
  have he:∀ w:World,(binOp .eql 50 (.slice none 0 0) (.slice none 0 0)).run Tryz.prog w=.ok (.bool true) w:=fun _=>rfl
  go_enter Tryz.func130,Tryz.ntmps130
  go_wp2_with (fail)
  go_ret
  exact ⟨_,rfl,Kd.R_nil _ _ _ _ _,Below.refl _ _⟩
 ·subst hv
  obtain ⟨A,c,he,hlc,hC⟩:=hc
  cases he
  have HC:=Aside0.mk (Kd.C_alloc hC (.cells #[] 72))
  have HE:=Aside0.mk (Slt_empty w w.heap.size (Nat.le_refl _))
  have HB:=Aside0.mk (below_alloc (Below.refl w.heap.size w) (.cells #[] 72))
  clear h0 hr ho hh hC
  obtain ⟨n,hn⟩:∃ n,n=L.length:=⟨_,rfl⟩
  rw [← hn] at HC hlc hl ⊢
  clear hn
  have he:∀ w:World,(binOp .eql 50 (.slice (some ⟨g,0,none⟩) n cap) (.slice none 0 0)).run Tryz.prog w=.ok (.bool false) w:=fun _=>rfl
  go_enter Tryz.func130,Tryz.ntmps130
  go_wp2_with ((with_reducible refine gate_builtin (b:=.append) (xs:=#[.tmp 5,.tmp 6]) rfl ?_);at_builtin;refine Kd.R_append_rows kSlt (Rr:=kSlt.K (w.alloc (.cells #[] 72))) (w0:=w) w.heap.size rfl (.tmp 5) (.tmp 6) 50 72 (.agg #[.int .i64 0,.int .i64 0,.int .i64 0,.int .i64 0]) 32 rfl Tryz.underlying50 infoSlt rfl (by decide) (by omega) (.slice (some ⟨w.heap.size,0,none⟩) 0 0) [] L (some ⟨g,0,none⟩) n cap (fun _=>True) (fun _=>False) rfl rfl HE.out HC.out (fun x cs hk=>by rw [kSlt_open hk];exact kSlt_mkM _ _ _ x) (fun _ hk=>hk.elim) (fun _ _=>trivial) HB.out HB.out.size ?aL ?_;(case aL=>simp;omega);intro v6 w6 ho hb hg hat;have HO6:=Aside0.mk ho;have HB6:=Aside0.mk hb;clear ho hb hg hat)
  go_ret
  exact ⟨_,rfl,by simpa using HO6.out,HB6.out⟩
set_option maxHeartbeats 4000000 in
set_option maxRecDepth 100000 in
theorem sorted_walk (L:List Slt) (v:Value) (base:Nat) (w:World) (h:Kd.R kSlt 72 w base (fun _=>True) v L) (hl:L.length≤100000) :
  Calls Tryz.prog 107 #[v,.func (.func 108) #[] #[]] w fun e w'=>∃ v' L',e=.returned v'∧L'.Perm L∧Kd.R kSlt 72 w' w.heap.size (fun _=>True) v' L'∧Below w.heap.size w w':=by
 have HIC:=hid (clone_walk L v base w h (by omega))
 obtain ⟨B,hB⟩:∃ B,B=w.heap.size:=⟨_,rfl⟩
 rw [← hB] at HIC ⊢
 have HBE:=hid hB
 clear h hB
 go_enter Tryz.func107,Tryz.ntmps107
 go_wp2_with (fail)
 refine HIC.out.mono ?_
 rintro e w2 ⟨v2,rfl,hr2,hb2⟩
 have HB2:=Aside0.mk hb2
 have HSC:=hid (stableFunc_walk L v2 B w2 hr2 (by rw [HBE.out];exact hb2.size) hl)
 clear hr2 hb2 HIC
 go_wp2_with (fail)
 refine HSC.out.mono ?_
 rintro e w3 ⟨rfl,L3,hp3,hr3,hb3⟩
 have HP3:=hid hp3
 have HR3:=Aside0.mk hr3
 have HB3:=Aside0.mk hb3
 clear hp3 hr3 hb3 HSC
 go_wp2_with (fail)
 go_ret
 exact ⟨_,L3,rfl,HP3.out,HR3.out,HB2.out.trans HB3.out⟩
end Go.Proofs.YtiioklboaookiaaGreatDoor.Q
namespace Go.Proofs.YtiioklboaookiaaGreatDoor.Q
open Go.RowKit Go.Proofs.YtiioklboaookiaaGreatDoorW.PrintWords Go.Proofs.YtiioklboaookiaaGreatDoorW.PrintLast Go.Proofs.YtiioklboaookiaaGreatDoor.Hand Go.Proofs.YtiioklboaookiaaGreatDoorW.PrintMore
attribute [local go_sem] max2_int min2_int max_two min_two max_three min_three max_four min_four
set_option linter.unusedVariables false
set_option linter.unusedSimpArgs false
def schedF (M:Nat→Nat→Int) (n:Nat) (ps:List S34):Nat→List Slt
 | 0=>[]
 | k+1=>schedF M n ps k++wrapF M n ps k
theorem schedF_le (M:Nat→Nat→Int) (n:Nat) (ps:List S34) {a b:Nat} (h:a≤b):(schedF M n ps a).length≤(schedF M n ps b).length:=by
 induction b with
 | zero=>rw [show a=0 by omega];exact Nat.le_refl _
 | succ b ih =>
  by_cases e:a=b+1
  ·rw [e];exact Nat.le_refl _
  ·refine Nat.le_trans (ih (by omega)) ?_
   show _≤(schedF M n ps b++wrapF M n ps b).length
   rw [List.length_append];omega
set_option maxHeartbeats 8000000 in
set_option maxRecDepth 100000 in
theorem sched_walk (pb b:Nat) (A0:Option Addr) (n c0 nb:Nat) (A1:Option Addr) (c1:Nat) (work:Int) (ps:List S34) (mb xb B N cnt:Nat) (M:Nat→Nat→Int) (adj:Nat→List Nat) (vs:Nat→Value) (w:World)
  (hp:ProbAt pb b A0 n c0 (.pointer (some ⟨nb,0,none⟩)) A1 ps.length c1 work w) (hc:Kd.C k34 w A1 ps.length ps) (hn:NetAt nb mb xb B N cnt M adj vs w) (hn32:n≤32) (hm:ps.length≤64)
  (hsp:∀ s,s ∈ ps→0≤s.f0∧s.f0<s.f1∧s.f1≤1000) (hws:∀ i,i<ps.length→∀ x,x ∈ worksF M n i→0≤x) (hT:∀ i,i<ps.length→(worksF M n i).sum≤10000) (hlen:(schedF M n ps ps.length).length≤100000) :
  Calls Tryz.prog 71 #[.pointer (some ⟨pb,0,none⟩)] w fun e w'=>∃ v L',e=.returned v∧L'.Perm (schedF M n ps ps.length)∧Kd.R kSlt 72 w' w.heap.size (fun _=>True) v L'∧Below w.heap.size w w':=by
 have HP:=hid hp
 have HC:=Aside0.mk hc
 have HN:=hid hn
 have HSP:=hid hsp
 have HWS:=hid hws
 have HT:=hid hT
 have HLEN:=hid hlen
 have q3:w.cell? ⟨pb,3,none⟩=some (.slice A1 ps.length c1):=hp.cells.2.2.2.1
 obtain ⟨B0,hB0⟩:∃ B0,B0=w.heap.size:=⟨_,rfl⟩
 rw [← hB0]
 have HBE:=hid hB0
 have HL0:Aside0 (Kd.R kSlt 72 w B0 (fun _=>True) (.slice none 0 0) []):=⟨Kd.R_nil _ _ _ _ _⟩
 have HB0:Aside0 (Below B0 w w):=⟨Below.refl _ _⟩
 clear hp hc hn hsp hws hT hlen hB0
 go_enter Tryz.func71,Tryz.ntmps71
 go_wp2_with (fail)
 clear q3
 go_loopg [3,10] ps.length (fun kq v3 v10 w'=>∃ (k:Nat),v10=.int .i64 k∧k+kq=ps.length∧Aside0 (Kd.R kSlt 72 w' B0 (fun _=>True) v3 (schedF M n ps k))∧Aside0 (Below B0 w w'))
 case atStart=>exact ⟨0,rfl,by omega,HL0,HB0⟩
 case round =>
  clear HL0 HB0
  obtain ⟨k,rfl,hk,HL,HB⟩:=hrel
  by_cases hlt:k<ps.length
  ·have d2:decide ((k:Int)<(ps.length:Int))=true:=decide_eq_true (by omega)
   have HLT:=hid hlt
   have hbw:=HB.out
   have HP1:=hid (HP.out.below (by rw [← HBE.out];exact hbw))
   have HC1:=Aside0.mk (Kd.C_below HC.out (by rw [← HBE.out];exact hbw))
   have HN1:=hid (HN.out.below (by rw [← HBE.out];exact hbw))
   have hlk:(schedF M n ps k).length+(wrapF M n ps k).length≤100000:=by
    have h1:=schedF_le M n ps (a:=k+1) (b:=ps.length) (by omega)
    have h2:=HLEN.out
    have h3:(schedF M n ps (k+1)).length=(schedF M n ps k).length+(wrapF M n ps k).length:=by show (schedF M n ps k++wrapF M n ps k).length=_;rw [List.length_append]
    omega
   have HLK:=hid hlk
   obtain ⟨Ao,co,eO⟩:=Kd.R_slice HL.out
   obtain ⟨L1,hL1⟩:∃ L1,L1=(schedF M n ps k).length:=⟨_,rfl⟩
   rw [← hL1] at eO
   subst eO
   have HL1:=hid hL1
   clear hL1 hlt hlk hbw
   go_wp2_with (fail)
   refine (wrap_walk pb b A0 n c0 nb A1 c1 work ps mb xb B N cnt M adj vs wr k HP1.out HC1.out HN1.out HLT.out hn32 hm HSP.out (HWS.out k HLT.out) (HT.out k HLT.out)).mono ?_
   rintro e w2 ⟨v2,rfl,hr2,hb2⟩
   obtain ⟨A2,c2,e2⟩:=Kd.R_slice hr2
   obtain ⟨L2,hL2⟩:∃ L2,L2=(wrapF M n ps k).length:=⟨_,rfl⟩
   rw [← hL2] at e2
   subst e2
   have HC2:=Aside0.mk (show Kd.C kSlt w2 A2 L2 (wrapF M n ps k) from by rw [hL2];exact (Kd.R_reads' hr2).2.2)
   have HL2:=hid hL2
   have HO2:=Aside0.mk (Kd.R_below HL.out hb2)
   have HB2:=Aside0.mk (HB.out.trans (hb2.mono (by rw [HBE.out];exact HB.out.size)))
   clear hr2 hb2 hL2 HL HB HP1 HC1 HN1
   go_wp2_with ((with_reducible refine gate_builtin (b:=.append) (xs:=#[.tmp 13,.tmp 16]) rfl ?_);at_builtin;refine Kd.R_append_rows kSlt (Rr:=kSlt.K w2) (w0:=w) B0 rfl (.tmp 13) (.tmp 16) 50 72 (.agg #[.int .i64 0,.int .i64 0,.int .i64 0,.int .i64 0]) 32 rfl Tryz.underlying50 infoSlt rfl (by decide) (by omega) (.slice Ao L1 co) (schedF M n ps k) (wrapF M n ps k) A2 L2 c2 (fun _=>True) (fun _=>False) rfl rfl HO2.out HC2.out (fun x cs hk=>by rw [kSlt_open hk];exact kSlt_mkM _ _ _ x) (fun _ hk=>hk.elim) (fun _ _=>trivial) HB2.out (by rw [HBE.out];exact HB2.out.size) ?aL ?_;(case aL=>have:=HLK.out;rw [← HL2.out] at this;omega);intro v6 w6 ho hb hg hat;have HO6:=Aside0.mk ho;have HB6:=Aside0.mk hb;clear ho hb hg hat)
   go_roundg (ps.length-(k+1))
   case rel=>exact ⟨k+1,by go_num,by have:=HLT.out;omega,HO6,HB6⟩
   case measure=>have:=HLT.out;omega
  ·have d2:decide ((k:Int)<(ps.length:Int))=false:=decide_eq_false (by omega)
   have hkm:k=ps.length:=by omega
   rw [hkm] at HL
   have HSC:=hid (sorted_walk (schedF M n ps ps.length) u3 B0 wr HL.out HLEN.out)
   clear hkm HL
   go_wp2_with (fail)
   refine HSC.out.mono ?_
   rintro e w3 ⟨v3,L3,rfl,hp3,hr3,hb3⟩
   have HP3:=hid hp3
   have HR3:=Aside0.mk hr3
   have HB3:=Aside0.mk hb3
   clear hp3 hr3 hb3 HSC
   go_wp2_with (fail)
   go_ret
   exact ⟨_,L3,rfl,HP3.out,Kd.R_lower HR3.out (by rw [HBE.out];exact HB.out.size),HB.out.trans (HB3.out.mono (by rw [HBE.out];exact HB.out.size))⟩
end Go.Proofs.YtiioklboaookiaaGreatDoor.Q
namespace Go.Proofs.YtiioklboaookiaaGreatDoor.Q
open Go.RowKit Go.Proofs.YtiioklboaookiaaGreatDoorW.PrintWords Go.Proofs.YtiioklboaookiaaGreatDoorW.PrintLast Go.Proofs.YtiioklboaookiaaGreatDoor.Hand Go.Proofs.YtiioklboaookiaaGreatDoorW.PrintMore
attribute [local go_sem] max2_int min2_int max_two min_two max_three min_three max_four min_four
set_option linter.unusedVariables false
set_option linter.unusedSimpArgs false
theorem neArc (a b c d:Int) (w:World):(binOp .neq 218 (.agg #[.int .i64 a,.int .i64 b]) (.agg #[.int .i64 c,.int .i64 d])).run Tryz.prog w=.ok (.bool (!decide (a=c∧b=d))) w:=by
 have h:=eqArc a b c d w
 rw [run_eql_struct] at h
 rw [run_neq_struct]
 generalize (Op.equalIn 10000 218 (.agg #[.int .i64 a,.int .i64 b]) (.agg #[.int .i64 c,.int .i64 d])).run Tryz.prog w=r at h ⊢
 cases r with
 | ok x w1 =>
  simp only [Result.andThen_ok] at h ⊢
  injection h with h1 h2
  injection h1 with h1
  rw [h1,h2]
 | _=>simp [Result.andThen] at h
theorem gdArcN (x y:Operand) (a b:Array Value) (w:World):(eqGuard .neq 218 x y (.agg a) (.agg b)).run Tryz.prog w=.ok () w:=run_eqGuard_agg w _ _ _ _ _ _ (by kernel_rfl)
theorem infoPair:(Tryz.prog.info? 42).map (fun i=>(i.zero,i.size,i.bytes))=some (some (.agg #[.int .i64 0,.int .i64 0]),2,16):=by kernel_rfl
set_option maxHeartbeats 4000000 in
set_option maxRecDepth 100000 in
theorem refu_walk (pb b:Nat) (A0:Option Addr) (n c0 nb:Nat) (A1:Option Addr) (c1:Nat) (work:Int) (ps:List S34) (mb xb B N cnt:Nat) (M:Nat→Nat→Int) (adj:Nat→List Nat) (vs:Nat→Value) (w:World)
  (hp:ProbAt pb b A0 n c0 (.pointer (some ⟨nb,0,none⟩)) A1 ps.length c1 work w) (hc:Kd.C k34 w A1 ps.length ps) (hn:NetAt nb mb xb B N cnt M adj vs w) (hn32:n≤32) (hm:ps.length≤64) (hN:N=2+n+ps.length)
  (hz:NoneAt w) (hadj:∀ i,i<N→∀ u,u ∈ adj i→u<N) (hlen:∀ i,(adj i).length<1000000) :
  Calls Tryz.prog 72 #[.pointer (some ⟨pb,0,none⟩)] w fun e w'=>∃ A2 n2 c2 A3 n3 c3,e=.returned (.tuple #[.slice A2 n2 c2,.slice A3 n3 c3])∧Below w.heap.size w w':=by
 have HP:=hid hp
 have HC:=Aside0.mk hc
 have HN:=hid hn
 have HZ:=hid hz
 have HADJ:=hid hadj
 have HLEN:=hid hlen
 have q2:w.cell? ⟨pb,2,none⟩=some (.pointer (some ⟨nb,0,none⟩)):=hp.cells.2.2.1
 obtain ⟨B0,hB0⟩:∃ B0,B0=w.heap.size:=⟨_,rfl⟩
 have HWK:=hid (ways_walk nb mb xb B N cnt M adj vs w 0 hn (by omega) (by omega) hz hadj hlen)
 rw [← hB0] at HWK ⊢
 have HBE:=hid hB0
 have HNE:=hid hN
 clear hp hc hn hz hadj hlen hB0 hN
 go_enter Tryz.func72,Tryz.ntmps72
 go_wp2_with (fail)
 refine HWK.out.mono ?_
 rintro e w1 ⟨rfl,hW,hB⟩
 obtain ⟨way,hway⟩:∃ way,way=waysF M adj N 0:=⟨_,rfl⟩
 rw [← hway] at hW
 have HWY:=Aside0.mk hW
 have HB1:=Aside0.mk hB
 have HP1:=hid (HP.out.below (by rw [← HBE.out];exact hB))
 have HC1:=Aside0.mk (Kd.C_below HC.out (by rw [← HBE.out];exact hB))
 have HZ1:=hid (HZ.out.below (by rw [← HBE.out];exact hB))
 clear hway hW hB q2 HWK HP HC HN HZ
 have q1:w1.cell? ⟨pb,1,none⟩=some (.slice A0 n c0):=HP1.out.cells.2.1
 go_wp2_with (fail)
 clear q1
 obtain ⟨B1,hB1⟩:∃ B1,B1=w1.heap.size:=⟨_,rfl⟩
 have HB1E:=hid hB1
 have HL0:Aside0 (Kd.R (Kd.int .i64) 3 w1 B1 (fun _=>True) (.slice none 0 0) []):=⟨Kd.R_nil _ _ _ _ _⟩
 have HBW0:Aside0 (Below B1 w1 w1):=⟨Below.refl _ _⟩
 clear hB1
 go_loopg [5,21] n (fun kq v5 v21 w'=>∃ (k:Nat) (L:List Int),v21=.int .i64 k∧k+kq=n∧L.length≤k∧Aside0 (Kd.R (Kd.int .i64) 3 w' B1 (fun _=>True) v5 L)∧Aside0 (Below B1 w1 w'))
 case atStart=>exact ⟨0,[],rfl,by omega,by simp,HL0,HBW0⟩
 case round =>
  clear HL0 HBW0
  obtain ⟨k,L,rfl,hk,hL,HL,HBW⟩:=hrel
  obtain ⟨Ao,co,eO⟩:=Kd.R_slice HL.out
  obtain ⟨L1,hL1⟩:∃ L1,L1=L.length:=⟨_,rfl⟩
  rw [← hL1] at eO hL
  subst eO
  have HL1:=hid hL1
  clear hL1
  by_cases hlt:k<n
  ·have d2:decide ((k:Int)<(n:Int))=true:=decide_eq_true (by omega)
   have d2n:decide (k<n)=true:=decide_eq_true hlt
   have HLT:=hid hlt
   have hbw:=HBW.out
   rw [HB1E.out] at hbw
   have HWY2:=Aside0.mk (HWY.out.below hbw)
   have HZ2:=hid (HZ1.out.below hbw)
   have k0:=(HWY2.out.1 (1+k) (by have:=HNE.out;omega)).1
   have k1:=(HWY2.out.1 (1+k) (by have:=HNE.out;omega)).2
   have z0:wr.cell? ⟨0,0,none⟩=some (.int .i64 (-1)):=HZ2.out.1
   have z1:wr.cell? ⟨0,1,none⟩=some (.int .i64 (-1)):=HZ2.out.2
   have i0:(0:Int)≤1+(k:Int):=by omega
   have i1:1+(k:Int)<(N:Int):=by have:=HNE.out;omega
   have htn:(1+(k:Int)).toNat=1+k:=by omega
   clear hbw hlt
   obtain ⟨x,y,hxy⟩:∃ x y,way (1+k)=(x,y):=⟨_,_,rfl⟩
   rw [hxy] at k0 k1
   have hgd:=fun p q w=>gdArcN p q #[.int .i64 x,.int .i64 y] #[.int .i64 (-1),.int .i64 (-1)] w
   by_cases hw:x = -1∧y = -1
   ·have heq:∀ w,(binOp .neq 218 (.agg #[.int .i64 x,.int .i64 y]) (.agg #[.int .i64 (-1),.int .i64 (-1)])).run Tryz.prog w=.ok (.bool false) w:=fun w=>by rw [neArc,decide_eq_true hw];rfl
    clear hxy hw
    go_wp2_with (fail)
    go_quiet (first|(go_at_call 102;refine Calls.quiet_of_same (job_walkI pb k _ (by omega))))
    go_wp2_with (fail)
    go_roundg (n-(k+1))
    case rel=>exact ⟨k+1,L,by go_num,by have:=HLT.out;omega,by rw [← HL1.out];omega,⟨Kd.R_drewN HL.out nq⟩,⟨pw_below_drewN HBW.out nq⟩⟩
    case measure=>have:=HLT.out;omega
   ·have heq:∀ w,(binOp .neq 218 (.agg #[.int .i64 x,.int .i64 y]) (.agg #[.int .i64 (-1),.int .i64 (-1)])).run Tryz.prog w=.ok (.bool true) w:=fun w=>by rw [neArc,decide_eq_false hw];rfl
    clear hxy hw
    go_wp2_with (fail)
    go_quiet (first|(go_at_call 102;refine Calls.quiet_of_same (job_walkI pb k _ (by omega))))
    obtain ⟨W4,hW4⟩:∃ W4,W4=wr.drewN nq:=⟨_,rfl⟩
    have HL4:=Aside0.mk (show Kd.R (Kd.int .i64) 3 W4 B1 (fun _=>True) (.slice Ao L1 co) L by rw [hW4];exact Kd.R_drewN HL.out nq)
    have HB4:=Aside0.mk (show Below B1 w1 W4 by rw [hW4];exact pw_below_drewN HBW.out nq)
    rw [← hW4]
    clear hW4 HL HBW k0 k1 z0 z1 heq hgd HWY2 HZ2
    go_wp2_with ((with_reducible refine gate_builtin (b:=.append) (xs:=#[.tmp 32,.tmp 34]) rfl ?_);at_builtin;refine Kd.R_append (Kd.int .i64) (w0:=w1) B1 rfl (.tmp 32) (.tmp 34) 43 3 (.int .i64 0) 8 rfl Tryz.underlying43 infoIntN rfl (by decide) (by omega) (.slice Ao L1 co) L (k:Int) [.int .i64 (k:Int)] (fun _=>True) (fun _=>False) rfl (by first|(go_simp;done)|(go_simp;rfl)) rfl (fun _ hk=>hk.elim) (fun _ _=>trivial) HL4.out HB4.out (by rw [HB1E.out];exact HB4.out.size) ?aL ?_;(case aL=>rw [← HL1.out];omega);intro v6 w6 ho hb hg hat;have HO6:=Aside0.mk ho;have HB6:=Aside0.mk hb;clear ho hb hg hat)
    go_roundg (n-(k+1))
    case rel=>exact ⟨k+1,L++[(k:Int)],by go_num,by have:=HLT.out;omega,by rw [List.length_append,← HL1.out];simp;omega,HO6,HB6⟩
    case measure=>have:=HLT.out;omega
  ·have d2:decide ((k:Int)<(n:Int))=false:=decide_eq_false (by omega)
   have hbw:=HBW.out
   rw [HB1E.out] at hbw
   have HP2:=hid (HP1.out.below hbw)
   have HC2:=Aside0.mk (Kd.C_below HC1.out hbw)
   have HZ2:=hid (HZ1.out.below hbw)
   have HWY2:=Aside0.mk (HWY.out.below hbw)
   have HB2:=Aside0.mk (HB1.out.trans (HBW.out.mono (by rw [HBE.out,HB1E.out];exact HB1.out.size)))
   have q3:wr.cell? ⟨pb,3,none⟩=some (.slice A1 ps.length c1):=HP2.out.cells.2.2.2.1
   clear hbw hL HL HBW HP1 HC1 HZ1 HWY
   go_wp2_with (fail)
   clear q3
   obtain ⟨B2,hB2⟩:∃ B2,B2=wr.heap.size:=⟨_,rfl⟩
   have HB2E:=hid hB2
   obtain ⟨w2,hw2⟩:∃ w2,w2=wr:=⟨_,rfl⟩
   subst hw2
   have HM0:Aside0 (Kd.R k34 42 w2 B2 (fun _=>True) (.slice none 0 0) []):=⟨Kd.R_nil _ _ _ _ _⟩
   have HBX0:Aside0 (Below B2 w2 w2):=⟨Below.refl _ _⟩
   clear hB2
   go_loopg [6,42] ps.length (fun kq v6 v42 w'=>∃ (i:Nat) (L:List S34),v42=.int .i64 i∧i+kq=ps.length∧L.length≤i∧Aside0 (Kd.R k34 42 w' B2 (fun _=>True) v6 L)∧Aside0 (Below B2 w2 w'))
   case atStart=>exact ⟨0,[],rfl,by omega,by simp,HM0,HBX0⟩
   case round =>
    clear HM0 HBX0
    obtain ⟨i,L2,rfl,hi,hL2,HL,HBW⟩:=hrel
    obtain ⟨Ap,cp,eP⟩:=Kd.R_slice HL.out
    obtain ⟨L3,hL3⟩:∃ L3,L3=L2.length:=⟨_,rfl⟩
    rw [← hL3] at eP hL2
    subst eP
    have HL3:=hid hL3
    clear hL3
    by_cases hlt:i<ps.length
    ·have d3:decide ((i:Int)<(ps.length:Int))=true:=decide_eq_true (by omega)
     have d3n:decide (i<ps.length)=true:=decide_eq_true hlt
     have HLT:=hid hlt
     have hbw:=HBW.out
     rw [HB2E.out] at hbw
     have HWY3:=Aside0.mk (HWY2.out.below hbw)
     have HZ3:=hid (HZ2.out.below hbw)
     have HP3:=hid (HP2.out.below hbw)
     obtain ⟨ad1,e1,hs0,hs1⟩:=at_T34 (Kd.C_below HC2.out hbw) (i:Int) (by omega) (by omega)
     rw [Int.toNat_natCast] at hs0 hs1
     cases e1
     have hlt2' : (i:Int)<(ps.length:Int):=by omega
     have j0:(0:Int)≤(i:Int):=by omega
     obtain ⟨sp,hsp⟩:∃ sp,sp=rd_T34 ps (i:Int):=⟨_,rfl⟩
     rw [← hsp] at hs0 hs1
     clear hsp
     have i0:(0:Int)≤1+(n:Int)+(i:Int):=by omega
     have i1:1+(n:Int)+(i:Int)<(N:Int):=by have:=HNE.out;omega
     have htn:(1+(n:Int)+(i:Int)).toNat=1+n+i:=by omega
     clear hbw hlt
     go_wp2_with (fail)
     obtain ⟨sb,hsb⟩:∃ sb,sb=wr.heap.size:=⟨_,rfl⟩
     obtain ⟨W10,hW10⟩:∃ W10,W10=wr.alloc (.cells #[.int .i64 sp.f0,.int .i64 sp.f1] 209):=⟨_,rfl⟩
     have hb10:Below wr.heap.size wr W10:=by rw [hW10];exact below_alloc (Below.refl _ _) _
     have HSB:=hid (show W10.heap[sb]?=some (.cells #[.int .i64 sp.f0,.int .i64 sp.f1] 209 (0,0)) by rw [hW10,hsb];exact blk_new _ _)
     rw [← hW10,← hsb]
     have HL10:=Aside0.mk (Kd.R_below HL.out hb10)
     have HB10:=Aside0.mk (HBW.out.trans (hb10.mono (by rw [HB2E.out];exact HBW.out.size)))
     have k0:=((HWY3.out.below hb10).1 (1+n+i) (by have:=HNE.out;have:=HLT.out;omega)).1
     have k1:=((HWY3.out.below hb10).1 (1+n+i) (by have:=HNE.out;have:=HLT.out;omega)).2
     have z0:W10.cell? ⟨0,0,none⟩=some (.int .i64 (-1)):=(HZ3.out.below hb10).1
     have z1:W10.cell? ⟨0,1,none⟩=some (.int .i64 (-1)):=(HZ3.out.below hb10).2
     have HP10:=hid (HP3.out.below hb10)
     clear hW10 hsb hs0 hs1 hb10 HP3 HZ3 HWY3 HL HBW
     obtain ⟨x,y,hxy⟩:∃ x y,way (1+n+i)=(x,y):=⟨_,_,rfl⟩
     rw [hxy] at k0 k1
     have hgd:=fun p q w=>gdArcN p q #[.int .i64 x,.int .i64 y] #[.int .i64 (-1),.int .i64 (-1)] w
     by_cases hw:x = -1∧y = -1
     ·have heq:∀ w,(binOp .neq 218 (.agg #[.int .i64 x,.int .i64 y]) (.agg #[.int .i64 (-1),.int .i64 (-1)])).run Tryz.prog w=.ok (.bool false) w:=fun w=>by rw [neArc,decide_eq_true hw];rfl
      clear hxy hw
      go_wp2_with (fail)
      go_quiet (first|(go_at_call 103;refine Calls.quiet_of_same (part_walkI pb b _ n c0 _ _ ps.length c1 _ i _ (HP10.out.below (pw_below_drewN (Below.refl _ _) _)) (by omega) (by have:=HLT.out;omega))))
      go_wp2_with (fail)
      go_roundg (ps.length-(i+1))
      case rel=>exact ⟨i+1,L2,by go_num,by have:=HLT.out;omega,by rw [← HL3.out];omega,⟨Kd.R_drewN HL10.out nq⟩,⟨pw_below_drewN HB10.out nq⟩⟩
      case measure=>have:=HLT.out;omega
     ·have heq:∀ w,(binOp .neq 218 (.agg #[.int .i64 x,.int .i64 y]) (.agg #[.int .i64 (-1),.int .i64 (-1)])).run Tryz.prog w=.ok (.bool true) w:=fun w=>by rw [neArc,decide_eq_false hw];rfl
      clear hxy hw
      go_wp2_with (fail)
      go_quiet (first|(go_at_call 103;refine Calls.quiet_of_same (part_walkI pb b _ n c0 _ _ ps.length c1 _ i _ (HP10.out.below (pw_below_drewN (Below.refl _ _) _)) (by omega) (by have:=HLT.out;omega))))
      obtain ⟨W4,hW4⟩:∃ W4,W4=W10.drewN nq:=⟨_,rfl⟩
      have HL4:=Aside0.mk (show Kd.R k34 42 W4 B2 (fun _=>True) (.slice Ap L3 cp) L2 by rw [hW4];exact Kd.R_drewN HL10.out nq)
      have HB4:=Aside0.mk (show Below B2 w2 W4 by rw [hW4];exact pw_below_drewN HB10.out nq)
      have c0_:W4.cell? ⟨sb,0,none⟩=some (.int .i64 sp.f0):=by rw [hW4];show W10.cell? _=_;simp [World.cell?,HSB.out]
      have c1_:W4.cell? ⟨sb,1,none⟩=some (.int .i64 sp.f1):=by rw [hW4];show W10.cell? _=_;simp [World.cell?,HSB.out]
      rw [← hW4]
      clear hW4 HL10 HB10 k0 k1 z0 z1 heq hgd
      go_wp2_with ((with_reducible refine gate_builtin (b:=.append) (xs:=#[.tmp 55,.tmp 61]) rfl ?_);at_builtin;refine Kd.R_append k34 (w0:=w2) B2 rfl (.tmp 55) (.tmp 61) 51 42 (.agg #[.int .i64 0,.int .i64 0]) 16 rfl Tryz.underlying51 infoPair rfl (by decide) (by omega) (.slice Ap L3 cp) L2 ⟨sp.f0,sp.f1⟩ [.int .i64 sp.f0,.int .i64 sp.f1] (fun _=>True) (fun _=>False) rfl (by first|(go_simp;done)|(go_simp;rfl)) ?aP (fun _ hk=>hk.elim) (fun _ _=>trivial) HL4.out HB4.out (by rw [HB2E.out];exact HB4.out.size) ?aL ?_;(case aP=>exact k34_mkM _ _ _ ⟨sp.f0,sp.f1⟩);(case aL=>rw [← HL3.out];have:=HLT.out;omega);intro v6 w6 ho hb hg hat;have HO6:=Aside0.mk ho;have HB6:=Aside0.mk hb;clear ho hb hg hat)
      go_roundg (ps.length-(i+1))
      case rel=>exact ⟨i+1,L2++[⟨sp.f0,sp.f1⟩],by go_num,by have:=HLT.out;omega,by rw [List.length_append,← HL3.out];simp;omega,HO6,HB6⟩
      case measure=>have:=HLT.out;omega
    ·have d3:decide ((i:Int)<(ps.length:Int))=false:=decide_eq_false (by omega)
     go_wp2_with (fail)
     go_ret2
     exact ⟨_,_,_,_,_,_,rfl,HB2.out.trans (HBW.out.mono (by rw [HBE.out,HB2E.out];exact HB2.out.size))⟩
end Go.Proofs.YtiioklboaookiaaGreatDoor.Q
namespace Go.Proofs.YtiioklboaookiaaGreatDoor.Q
open Go.RowKit Go.Proofs.YtiioklboaookiaaGreatDoorW.PrintWords Go.Proofs.YtiioklboaookiaaGreatDoorW.PrintLast Go.Proofs.YtiioklboaookiaaGreatDoor.Hand Go.Proofs.YtiioklboaookiaaGreatDoorW.PrintMore
attribute [local go_sem] max2_int min2_int max_two min_two max_three min_three max_four min_four
set_option linter.unusedVariables false
set_option linter.unusedSimpArgs false
theorem sumN_range (f:Nat→Int) (n:Nat):((List.range n).map f).sum=sumN f n:=by
 induction n with
 | zero=>rfl
 | succ n ih=>rw [List.range_succ,List.map_append,List.sum_append,ih];simp [sumN]
theorem workF_bnd:∀ (l:List S76),(∀ x,x ∈ l→jobOk x=true)→0≤workF l∧workF l≤1000*(l.length:Int)
 | [],_=>by unfold workF;simp
 | a::l,h=>by
  obtain ⟨h1,h2,h3,h4,h5⟩:=of_decide_eq_true (h a List.mem_cons_self)
  obtain ⟨g1,g2⟩:=workF_bnd l (fun x hx=>h x (List.mem_cons_of_mem _ hx))
  have e:workF (a::l)=a.f2+workF l:=by unfold workF;rw [List.map_cons,List.sum_cons]
  rw [e,List.length_cons]
  omega
structure Cut (b:Nat) (l:List S76) (M:Nat→Nat→Int) (sum:Int):Prop where
 flow:Flow b l (spansF l) M sum
 cut:∃ R:Nat→Prop,R 0∧¬ R (1+l.length+(spansF l).length)∧∀ v u,v<2+l.length+(spansF l).length→R v→0<M v u→R u
theorem Cut.window {b:Nat} {d:Int} {l:List S76} {M:Nat→Nat→Int} {sum:Int} (h:Cut b l M sum) (hd:0<d) (hl:∀ j,j ∈ l→j.f0=0∧j.f1=d∧0≤j.f2):sum=workF l ↔ (∀ j,j ∈ l→j.f2≤d)∧workF l≤b*d:=by
 by_cases hne:l=[]
 ·subst hne
  have h0:=h.flow.all
  have e1:workF ([]:List S76)=0:=rfl
  have e2:sumN (fun k=>M 0 (1+k)) ([]:List S76).length=0:=rfl
  rw [e1,e2] at h0
  have h3:sum=0:=by omega
  rw [e1,h3]
  have:0≤(b:Int)*d:=Int.mul_nonneg (by omega) (by omega)
  exact ⟨fun _=>⟨fun j hj=>absurd hj (by simp),this⟩,fun _=>rfl⟩
 ·have hs:=spans_window l d hne (fun j hj=>⟨(hl j hj).1,(hl j hj).2.1⟩) hd
  obtain ⟨R,r1,r2,r3⟩:=h.cut
  have hf:=h.flow
  rw [hs] at hf r2 r3
  exact one_window hf hl r1 r2 r3
theorem spans_len (l:List S76) (hl:l.length≤32):(spansF l).length≤64:=by
 unfold spansF pairsF timesF Lib.compact Lib.compactUpTo
 rw [List.length_map,List.length_range,List.length_map]
 refine Nat.le_trans (Nat.sub_le _ _) (Nat.le_trans (List.length_filter_le _ _) ?_)
 rw [List.length_range,List.length_mergeSort,timesR_length];omega
theorem fill_prob (b:Nat) (l:List S76) (hb:b≤8) (hl:l.length≤32) (hv:∀ x,x ∈ l→jobOk x=true) (nb mb xb B cnt:Nat) (vs:Nat→Value) (w:World)
  (h:NetAt nb mb xb B (2+l.length+(spansF l).length) cnt (probG b l (spansF l)).1 (probG b l (spansF l)).2 vs w) (hcnt:cnt≤10000) (hz:NoneAt w) (hB:1≤B) :
  Calls Tryz.prog 69 #[.pointer (some ⟨nb,0,none⟩),.int .i64 0,.int .i64 ((1+l.length+(spansF l).length:Nat):Int)] w fun e w'=>∃ sum M' n',e=.returned (.int .i64 sum)∧Cut b l M' sum ∧
   NetAt nb mb xb B (2+l.length+(spansF l).length) n' M' (probG b l (spansF l)).2 vs w'∧NetKeep B w w':=by
 have hm:=spans_len l hl
 have hsp:=spansF_ok l hv
 have hbd:=probG_bnd b l (spansF l) hb hv (fun s hs=>by have:=hsp s hs;omega)
 have hok:=probG_ok b l (spansF l)
 obtain ⟨hw0,hw1⟩:=workF_bnd l hv
 have hR:rowS (probG b l (spansF l)).1 0 (2+l.length+(spansF l).length)=((workF l).toNat:Int):=by rw [probG_row];omega
 have hlen:∀ i,((probG b l (spansF l)).2 i).length<1000000:=fun i=>by
  have h1:=hok.len i
  have h2:l.length*(2+2*(spansF l).length)≤32*130:=Nat.mul_le_mul hl (by omega)
  omega
 have hadj:∀ i,i<2+l.length+(spansF l).length→∀ u,u ∈ (probG b l (spansF l)).2 i→u<2+l.length+(spansF l).length:=fun i _ u hu=>hok.low i u hu
 have hnum:cnt+2*(2+l.length+(spansF l).length)*((workF l).toNat+1)<10000000000:=by
  have:2*(2+l.length+(spansF l).length)*((workF l).toNat+1)≤196*32001:=Nat.mul_le_mul (by omega) (by omega)
  omega
 refine (nfill_walk nb mb xb B (2+l.length+(spansF l).length) cnt (probG b l (spansF l)).1 (probG b l (spansF l)).2 vs w 0 (1+l.length+(spansF l).length) (workF l).toNat h (by omega) (by omega) (by omega) (by omega) hz hB hadj hlen (fun x y=>(hbd x y).1) (fun x y=>by have:=(hbd x y).2;have:=(hbd y x).2;omega) hR (by omega) hnum).mono ?_
 rintro e w1 ⟨sum,M',n',rfl,hF,hW,hN,hK⟩
 refine ⟨sum,M',n',rfl,⟨Flow.of hF,?_⟩,hN,hK⟩
 obtain ⟨⟨d,hT⟩,hcl⟩:=waysF_tree M' (probG b l (spansF l)).2 (2+l.length+(spansF l).length) 0 (by omega) hadj
 refine ⟨fun v=>waysF M' (probG b l (spansF l)).2 (2+l.length+(spansF l).length) 0 v≠(-1,-1),?_,fun h=>h hW,fun v u hv hw hm=>?_⟩
 ·show waysF M' _ _ 0 0≠_
  rw [hT.1];exact noWay_at
 ·refine hcl v hv hw u ?_ hm
  have h1:=hF.sym v u
  have h2:=hF.pos u v
  by_cases e1:(probG b l (spansF l)).1 v u=0
  ·exact (hok.arc u v (by omega)).2
  ·exact (hok.arc v u e1).1
theorem Cut.works {b:Nat} {l:List S76} {M:Nat→Nat→Int} {sum:Int} (h:Cut b l M sum) (hb:b≤8) (hv:∀ x,x ∈ l→jobOk x=true) (i:Nat) (hi:i<(spansF l).length):(∀ x,x ∈ worksF M l.length i→0≤x)∧(worksF M l.length i).sum≤8000:=by
 refine ⟨fun x hx=>?_,?_⟩
 ·unfold worksF at hx
  obtain ⟨k,hk,rfl⟩:=List.mem_map.1 hx
  exact h.flow.ge k i (List.mem_range.1 hk) hi
 ·unfold worksF
  rw [sumN_range]
  obtain ⟨h1,h2⟩:=h.flow.part i hi
  have h3:lenF (spansF l) i≤1000∧0≤lenF (spansF l) i:=by
   unfold lenF
   rw [List.getElem?_eq_getElem hi]
   have:=spansF_ok l hv _ (List.getElem_mem hi)
   show (spansF l)[i].f1-(spansF l)[i].f0≤1000∧0≤(spansF l)[i].f1-(spansF l)[i].f0
   omega
  have h4:=Int.mul_le_mul (show (b:Int)≤8 by omega) h3.1 h3.2 (by omega)
  omega
end Go.Proofs.YtiioklboaookiaaGreatDoor.Q
namespace Go.Proofs.YtiioklboaookiaaGreatDoor.Q
open Go.RowKit Go.Proofs.YtiioklboaookiaaGreatDoorW.PrintWords Go.Proofs.YtiioklboaookiaaGreatDoorW.PrintLast Go.Proofs.YtiioklboaookiaaGreatDoor.Hand Go.Proofs.YtiioklboaookiaaGreatDoorW.PrintMore
attribute [local go_sem] max2_int min2_int max_two min_two max_three min_three max_four min_four
set_option linter.unusedVariables false
set_option linter.unusedSimpArgs false
theorem results_c {P:Program} {fn:Func} {p:Tmp} {ty:TypeId} (h:fn.results=#[.cell p ty]) (tmps:Array Value) (w:World) (g:Nat) (t:TypeId) (cs:Array Value) (fr:Nat × Nat) (d:TypeDesc)
  (hp:tmps.getD p undef=.pointer (some ⟨g,0,none⟩)) (hg:w.heap[g]?=some (.cells cs t fr))
  (hu:P.underlying ty=some d) (hd:(match d with | .struct _ | .array _ _=>true|_=>false)=true) (hi:(P.info? ty).map (·.size)=some cs.size) :
  (results fn tmps).run P w=.ok (.agg cs) w:=by
 have hp' : tmps[p]?.getD undef=.pointer (some ⟨g,0,none⟩):=by simpa using hp
 simp [results,h,hp',asAddr,run_loadVar_row w g t ty cs fr d hg hu hd hi]
structure Slots (b:Nat) (l:List S76) (base:Nat) (v:Value) (w:World):Prop where
 ex:∃ M L,Cut b l M (workF l)∧L.Perm (schedF M l.length (spansF l) (spansF l).length)∧Kd.R kSlt 72 w base (fun _=>True) v L
set_option maxHeartbeats 8000000 in
set_option maxRecDepth 100000 in
theorem bplan_walk (b:Nat) (A0:Option Addr) (c0:Nat) (l:List S76) (w:World) (hb:b≤8) (hl:l.length≤32) (hr:Kd.C k76 w A0 l.length l) (hv:∀ x,x ∈ l→jobOk x=true) (hz:NoneAt w)
  (hS:∀ M,Cut b l M (workF l)→(schedF M l.length (spansF l) (spansF l).length).length≤100000) :
  Calls Tryz.prog 33 #[.agg #[.int .i64 b,.slice A0 l.length c0]] w fun e w'=>∃ p AS nS cS A2 n2 c2 A3 n3 c3 sum M,e=.returned (.agg #[.bool p,.slice AS nS cS,.slice A2 n2 c2,.slice A3 n3 c3])∧Cut b l M sum∧(p=true ↔ sum=workF l)∧((p=true→Slots b l w.heap.size (.slice AS nS cS) w')∧(p=false→AS=none∧nS=0∧cS=0))∧Below w.heap.size w w':=by
 have HR:=Aside0.mk hr
 have HV:=hid hv
 have HZ:=hid hz
 have HSL:=hid hS
 have hzlt:0<w.heap.size:=World.block_lt_of_cell? w _ hz.1
 clear hr hv hz hS
 go_enter Tryz.func33,Tryz.ntmps33
 go_wp2_with (fail)
 obtain ⟨ab,hab⟩:∃ ab,ab=w.heap.size+1:=⟨_,rfl⟩
 obtain ⟨W2,hW2⟩:∃ W2,W2=(w.alloc (.cells #[.int .i64 b,.slice A0 l.length c0] 112)).alloc (.cells #[.bool false,.slice none 0 0,.slice none 0 0,.slice none 0 0] 53):=⟨_,rfl⟩
 have hb2:Below w.heap.size w W2:=by rw [hW2];exact below_alloc (below_alloc (Below.refl _ _) _) _
 have HA2:=hid (show W2.heap[ab]?=some (.cells #[.bool false,.slice none 0 0,.slice none 0 0,.slice none 0 0] 53 (0,0)) by rw [hW2,hab];exact heap_new _ _ _ (by simp))
 rw [← hW2,← hab]
 have HAB:=hid hab
 have hab0:w.heap.size≤ab:=by omega
 have HB2:=Aside0.mk hb2
 clear hW2 hab
 refine (newp_walk b A0 c0 l W2 hb hl (Kd.C_below HR.out hb2) HV.out).mono ?_
 rintro e w3 ⟨pb,nb,mb,xb,B,cnt,A1,c1,vs,rfl,hp3,⟨base,hpa⟩,hBs,hcnt,hn3,hpB,hb3⟩
 have HA3:=hid (show w3.drew.heap[ab]?=some (.cells #[.bool false,.slice none 0 0,.slice none 0 0,.slice none 0 0] 53 (0,0)) from (hb3.block ab (lt_of_some HA2.out)).trans HA2.out)
 have habB:ab<B:=Nat.lt_of_lt_of_le (lt_of_some HA2.out) hBs
 have hB1:1≤B:=by omega
 have HB3:=Aside0.mk (HB2.out.trans (hb3.mono hb2.size)).drew
 have HZ3:=hid (HZ.out.below HB3.out)
 have HP3:=hid (show ProbAt pb b A0 l.length c0 (.pointer (some ⟨nb,0,none⟩)) A1 (spansF l).length c1 (workF l) w3.drew from hp3)
 have HN3:=hid (hn3.below (below_drew1 (Below.refl _ _)))
 have HPA3:=Aside0.mk hpa
 have HS:=hid (show w3.drew.cell? ⟨pb,2,none⟩=some (.pointer (some ⟨nb,0,none⟩))∧w3.drew.cell? ⟨pb,4,none⟩=some (.int .i64 (workF l)) from ⟨HP3.out.cells.2.2.1,HP3.out.cells.2.2.2.2.1⟩)
 have hm:=spans_len l hl
 have hwB:w.heap.size≤B:=by omega
 clear hp3 hpa hBs hn3 hb3 hb2 HA2 HB2
 go_wp2_with (fail)
 refine start_ (n:=12) (S:=fun w'=>w'.cell? ⟨pb,2,none⟩=some (.pointer (some ⟨nb,0,none⟩))∧w'.cell? ⟨pb,4,none⟩=some (.int .i64 (workF l))) (ds:=[]) #[false,false,false,false,false,false,false,false,false,false,false,false] (by kernel_rfl) rfl rfl HS.out (fun hHeld=>?_)
 refine pure_ (i:=0) (N:=some 8) (v:=?_) (a':=?_) #[true,false,false,false,false,false,false,false,false,false,false,false] rfl rfl (by kernel_rfl) (fun _ _ _ h=>h) (Or.inl ⟨by rfl,?_⟩) ?_ ?_
 rotate_left
 ·intro w'
  go_simp
  with_reducible rfl
 rotate_left
 ·simp only [Act.put,sp__,i64_w,i32_w]
  rfl
 refine pure_ (i:=1) (N:=some 9) (v:=?_) (a':=?_) #[true,true,false,false,false,false,false,false,false,false,false,false] rfl rfl (by kernel_rfl) (fun _ _ _ h=>h) (Or.inl ⟨by rfl,?_⟩) ?_ ?_
 rotate_left
 ·intro w'
  go_simp
  with_reducible rfl
 rotate_left
 ·simp only [Act.put,sp__,i64_w,i32_w]
  rfl
 refine pure_ (i:=2) (N:=some 10) (v:=?_) (a':=?_) #[true,true,true,false,false,false,false,false,false,false,false,false] rfl rfl (by kernel_rfl) (fun _ _ _ h=>h) (Or.inl ⟨by rfl,?_⟩) ?_ ?_
 rotate_left
 ·intro w'
  go_simp
  with_reducible rfl
 rotate_left
 ·simp only [Act.put,sp__,i64_w,i32_w]
  rfl
 refine take_ (i:=3) (N:=some 11) (v:=?_) (a':=?_) #[true,true,true,true,false,false,false,false,false,false,false,false] rfl rfl (by kernel_rfl) (fun _ _ _ h=>h) (Or.inl ⟨by rfl,?_⟩) hHeld ?_ ?_
 rotate_left
 ·rintro w' ⟨s0,s1⟩
  go_simp
  with_reducible rfl
 rotate_left
 ·simp only [Act.put,sp__,i64_w,i32_w]
  rfl
 refine pure_ (i:=4) (N:=some 12) (v:=?_) (a':=?_) #[true,true,true,true,true,false,false,false,false,false,false,false] rfl rfl (by kernel_rfl) (fun _ _ _ h=>h) (Or.inl ⟨by rfl,?_⟩) ?_ ?_
 rotate_left
 ·intro w'
  go_simp
  with_reducible rfl
 rotate_left
 ·simp only [Act.put,sp__,i64_w,i32_w]
  rfl
 refine pure_ (i:=7) (N:=some 15) (v:=?_) (a':=?_) #[true,true,true,true,true,false,false,true,false,false,false,false] rfl rfl (by kernel_rfl) (fun _ _ _ h=>h) (Or.inl ⟨by rfl,?_⟩) ?_ ?_
 rotate_left
 ·intro w'
  go_simp
  with_reducible rfl
 rotate_left
 ·simp only [Act.put,sp__,i64_w,i32_w]
  rfl
 refine pure_ (i:=8) (N:=some 16) (v:=?_) (a':=?_) #[true,true,true,true,true,false,false,true,true,false,false,false] rfl rfl (by kernel_rfl) (fun _ _ _ h=>h) (Or.inl ⟨by rfl,?_⟩) ?_ ?_
 rotate_left
 ·intro w'
  go_simp
  with_reducible rfl
 rotate_left
 ·simp only [Act.put,sp__,i64_w,i32_w]
  rfl
 refine pure_ (i:=9) (N:=some 17) (v:=?_) (a':=?_) #[true,true,true,true,true,false,false,true,true,true,false,false] rfl rfl (by kernel_rfl) (fun _ _ _ h=>h) (Or.inl ⟨by rfl,?_⟩) ?_ ?_
 rotate_left
 ·intro w'
  go_simp
  with_reducible rfl
 rotate_left
 ·simp only [Act.put,sp__,i64_w,i32_w]
  rfl
 refine take_ (i:=10) (N:=some 18) (v:=?_) (a':=?_) #[true,true,true,true,true,false,false,true,true,true,true,false] rfl rfl (by kernel_rfl) (fun _ _ _ h=>h) (Or.inl ⟨by rfl,?_⟩) hHeld ?_ ?_
 rotate_left
 ·rintro w' ⟨s0,s1⟩
  go_simp
  with_reducible rfl
 rotate_left
 ·simp only [Act.put,sp__,i64_w,i32_w]
  rfl
 refine one_ (i:=5) (N:=some 13) #[true,true,true,true,true,true,false,true,true,true,true,false] rfl rfl (by kernel_rfl) (by decide) (fun K hK=>?_)
 refine goes_ Tryz.func70 (by kernel_rfl) rfl #[.pointer (some ⟨pb,0,none⟩)] (by rfl) rfl rfl (by (try simp only [List.map_toArray,List.map_cons,List.map_nil]);first|done|rfl) ?_
 refine (last_walk pb b _ l.length c0 _ _ (spansF l).length c1 _ _ HP3.out (by omega) (by omega)).mono ?_
 rintro e w4 ⟨rfl,q4,rfl⟩
 have hb4:=pw_below_drewN (Below.refl w3.drew.heap.size w3.drew) q4
 have g0_:=pw_cell_below hb4 HS.out.1
 have g1_:=pw_cell_below hb4 HS.out.2
 have HS4:=hid (And.intro g0_ g1_)
 have HN4:=hid (HN3.out.below hb4)
 clear hb4 g0_ g1_
 refine ⟨_,rfl,?_⟩
 refine hK.out _ _ HS4.out (fun hHeld=>?_)
 clear hK K
 refine norm_ (a':=?_) ?_ ?_
 rotate_left
 ·show Act.put _ (some 13) _=_
  simp only [Act.put,sp__,i64_w,i32_w]
  rfl
 refine one_ (i:=6) (N:=some 14) #[true,true,true,true,true,true,true,true,true,true,true,false] rfl rfl (by kernel_rfl) (by decide) (fun K hK=>?_)
 refine goes_ Tryz.func69 (by kernel_rfl) rfl #[.pointer (some ⟨nb,0,none⟩),.int .i64 0,.int .i64 ((1+l.length+(spansF l).length:Nat):Int)] (by rfl) rfl rfl (by (try simp only [List.map_toArray,List.map_cons,List.map_nil]);first|done|rfl) ?_
 refine (fill_prob b l hb hl HV.out nb mb xb B cnt vs _ HN4.out hcnt (HZ3.out.keep (pw_below_drewN (Below.refl B w3.drew) q4) hB1) hB1).mono ?_
 rintro e w5 ⟨sum,M',n',rfl,hAN,hn5,hk5⟩
 have HAN:=hid hAN
 have HN5:=hid hn5
 have HK5:=hid ((NetKeep.of (B:=B) (pw_below_drewN (Below.refl w3.drew.heap.size w3.drew) q4) HN3.out.base).trans hk5)
 have HP5:=hid (show ProbAt pb b A0 l.length c0 (.pointer (some ⟨nb,0,none⟩)) A1 (spansF l).length c1 (workF l) w5 from HK5.out.blk _ _ _ _ HP3.out (by decide) (by decide))
 have g0_:=HP5.out.cells.2.2.1
 have g1_:=HP5.out.cells.2.2.2.2.1
 clear hAN hn5 hk5
 refine ⟨_,rfl,?_⟩
 refine hK.out _ _ ⟨g0_,g1_⟩ (fun hHeld=>?_)
 clear hK K
 refine norm_ (a':=?_) ?_ ?_
 rotate_left
 ·show Act.put _ (some 14) _=_
  simp only [Act.put,sp__,i64_w,i32_w]
  rfl
 refine pure_ (i:=11) (N:=some 19) (v:=?_) (a':=?_) #[true,true,true,true,true,true,true,true,true,true,true,true] rfl rfl (by kernel_rfl) (fun _ _ _ h=>h) (Or.inl ⟨by rfl,?_⟩) ?_ ?_
 rotate_left
 ·intro w'
  go_simp
  with_reducible rfl
 rotate_left
 ·simp only [Act.put,sp__,i64_w,i32_w]
  rfl
 refine done_ (by kernel_rfl) ?_
 clear g0_ g1_ HS4 HN4
 have HA5:=hid (show w5.heap[ab]?=some (.cells #[.bool false,.slice none 0 0,.slice none 0 0,.slice none 0 0] 53 (0,0)) from (HK5.out.bel.block ab habB).trans HA3.out)
 have HB5:=Aside0.mk (HB3.out.trans (HK5.out.bel.mono hwB))
 have HC5:=Aside0.mk (Kd.R_reads' (Kd.R_move HPA3.out (fun k hk=>HK5.out.bel.block k hk))).2.2
 have HZ5:=hid (HZ3.out.keep HK5.out.bel hB1)
 have hok:=probG_ok b l (spansF l)
 have hadj:∀ i,i<2+l.length+(spansF l).length→∀ u,u ∈ (probG b l (spansF l)).2 i→u<2+l.length+(spansF l).length:=fun i _ u hu=>hok.low i u hu
 have hlen:∀ i,((probG b l (spansF l)).2 i).length<1000000:=fun i=>by
  have h1:=hok.len i
  have h2:l.length*(2+2*(spansF l).length)≤32*130:=Nat.mul_le_mul hl (by omega)
  omega
 have HADJ:=hid hadj
 have HLEN:=hid hlen
 clear hok hadj hlen HS HA3 HZ3 HB3 HP3 HN3 HPA3
 by_cases hs:sum=workF l
 ·have t1:(sum == workF l)=true:=beq_iff_eq.2 hs
  have hcut:=HAN.out
  rw [hs] at hcut
  have HCUT:=hid hcut
  have HSE:=hid hs
  clear hs hcut
  go_wp2_with (fail)
  refine (sched_walk pb b A0 l.length c0 nb A1 c1 (workF l) (spansF l) mb xb B (2+l.length+(spansF l).length) n' M' (probG b l (spansF l)).2 vs w5 HP5.out HC5.out HN5.out hl hm (spansF_ok l HV.out) (fun i hi=>(HCUT.out.works hb HV.out i hi).1) (fun i hi=>by have:=(HCUT.out.works hb HV.out i hi).2;omega) (HSL.out M' HCUT.out)).mono ?_
  rintro e w6 ⟨v6,L6,rfl,hp6,hr6,hb6⟩
  have HA6:=hid (show w6.heap[ab]?=some (.cells #[.bool false,.slice none 0 0,.slice none 0 0,.slice none 0 0] 53 (0,0)) from (hb6.block ab (lt_of_some HA5.out)).trans HA5.out)
  have HB6:=Aside0.mk (HB5.out.trans (hb6.mono HB5.out.size))
  have HP6:=hid hp6
  have HR6:=Aside0.mk (Kd.R_lower hr6 HB5.out.size)
  clear hp6 hr6 hb6
  obtain ⟨A6,c6,e6⟩:=Kd.R_slice HR6.out
  obtain ⟨L7,hL7⟩:∃ L7,L7=L6.length:=⟨_,rfl⟩
  rw [← hL7] at e6
  subst e6
  clear hL7
  have f0:∀ j,w6.frozen? ⟨ab,j,none⟩=false:=fun j=>by simp [World.frozen?,HA6.out]
  have z0:w6.cell? ⟨ab,0,none⟩=some (.bool false):=by simp [World.cell?,HA6.out]
  have z1:w6.cell? ⟨ab,1,none⟩=some (.slice none 0 0):=by simp [World.cell?,HA6.out]
  have z2:w6.cell? ⟨ab,2,none⟩=some (.slice none 0 0):=by simp [World.cell?,HA6.out]
  have z3:w6.cell? ⟨ab,3,none⟩=some (.slice none 0 0):=by simp [World.cell?,HA6.out]
  go_wp2_with (fail)
  have hA6:w6.heap[ab]?=some (.cells #[.bool false,.slice none 0 0,.slice none 0 0,.slice none 0 0] 53 (0,0)):=HA6.out
  have hA60:((w6).setCell ⟨ab,0,none⟩ (.bool true)).heap[ab]?=some (.cells #[.bool true,.slice none 0 0,.slice none 0 0,.slice none 0 0] 53 (0,0)):=blk_put hA6 0 (.bool true) rfl
  have hA61:(((w6).setCell ⟨ab,0,none⟩ (.bool true)).setCell ⟨ab,1,none⟩ (.slice A6 L7 c6)).heap[ab]?=some (.cells #[.bool true,.slice A6 L7 c6,.slice none 0 0,.slice none 0 0] 53 (0,0)):=blk_put hA60 1 (.slice A6 L7 c6) rfl
  have hA62:((((w6).setCell ⟨ab,0,none⟩ (.bool true)).setCell ⟨ab,1,none⟩ (.slice A6 L7 c6)).setCell ⟨ab,2,none⟩ (.slice none 0 0)).heap[ab]?=some (.cells #[.bool true,.slice A6 L7 c6,.slice none 0 0,.slice none 0 0] 53 (0,0)):=blk_put hA61 2 (.slice none 0 0) rfl
  have hA63:(((((w6).setCell ⟨ab,0,none⟩ (.bool true)).setCell ⟨ab,1,none⟩ (.slice A6 L7 c6)).setCell ⟨ab,2,none⟩ (.slice none 0 0)).setCell ⟨ab,3,none⟩ (.slice none 0 0)).heap[ab]?=some (.cells #[.bool true,.slice A6 L7 c6,.slice none 0 0,.slice none 0 0] 53 (0,0)):=blk_put hA62 3 (.slice none 0 0) rfl
  refine bodyPost_ret (results_c rfl _ _ ab 53 _ (0,0) _ rfl hA63 Tryz.underlying53 rfl (by kernel_rfl)) rfl ?_
  refine ⟨true,A6,L7,c6,none,0,0,none,0,0,sum,M',rfl,HAN.out,⟨fun _=>HSE.out,fun _=>rfl⟩,⟨fun _=>⟨M',L6,HCUT.out,HP6.out,?_⟩,fun h=>absurd h (by decide)⟩,?_⟩
  ·exact Kd.R_set (Kd.R_set (Kd.R_set (Kd.R_set HR6.out hA6 (by decide) 0 (.bool true)) hA60 (by decide) 1 (.slice A6 L7 c6)) hA61 (by decide) 2 (.slice none 0 0)) hA62 (by decide) 3 (.slice none 0 0)
  ·exact Below.setCell (p:=⟨ab,3,none⟩) (Below.setCell (p:=⟨ab,2,none⟩) (Below.setCell (p:=⟨ab,1,none⟩) (Below.setCell (p:=⟨ab,0,none⟩) HB6.out hab0 _) hab0 _) hab0 _) hab0 _
 ·have t1:(sum == workF l)=false:=by rw [beq_eq_false_iff_ne];exact hs
  have HSE:=hid hs
  clear hs
  go_wp2_with (fail)
  refine (refu_walk pb b A0 l.length c0 nb A1 c1 (workF l) (spansF l) mb xb B (2+l.length+(spansF l).length) n' M' (probG b l (spansF l)).2 vs w5 HP5.out HC5.out HN5.out hl hm rfl HZ5.out HADJ.out HLEN.out).mono ?_
  rintro e w6 ⟨A2,n2,c2,A3,n3,c3,rfl,hb6⟩
  have HA6:=hid (show w6.heap[ab]?=some (.cells #[.bool false,.slice none 0 0,.slice none 0 0,.slice none 0 0] 53 (0,0)) from (hb6.block ab (lt_of_some HA5.out)).trans HA5.out)
  have HB6:=Aside0.mk (HB5.out.trans (hb6.mono HB5.out.size))
  clear hb6
  have f0:∀ j,w6.frozen? ⟨ab,j,none⟩=false:=fun j=>by simp [World.frozen?,HA6.out]
  have z0:w6.cell? ⟨ab,0,none⟩=some (.bool false):=by simp [World.cell?,HA6.out]
  have z1:w6.cell? ⟨ab,1,none⟩=some (.slice none 0 0):=by simp [World.cell?,HA6.out]
  have z2:w6.cell? ⟨ab,2,none⟩=some (.slice none 0 0):=by simp [World.cell?,HA6.out]
  have z3:w6.cell? ⟨ab,3,none⟩=some (.slice none 0 0):=by simp [World.cell?,HA6.out]
  go_wp2_with (fail)
  have hA6:w6.heap[ab]?=some (.cells #[.bool false,.slice none 0 0,.slice none 0 0,.slice none 0 0] 53 (0,0)):=HA6.out
  have hA60:((w6).setCell ⟨ab,0,none⟩ (.bool false)).heap[ab]?=some (.cells #[.bool false,.slice none 0 0,.slice none 0 0,.slice none 0 0] 53 (0,0)):=blk_put hA6 0 (.bool false) rfl
  have hA61:(((w6).setCell ⟨ab,0,none⟩ (.bool false)).setCell ⟨ab,1,none⟩ (.slice none 0 0)).heap[ab]?=some (.cells #[.bool false,.slice none 0 0,.slice none 0 0,.slice none 0 0] 53 (0,0)):=blk_put hA60 1 (.slice none 0 0) rfl
  have hA62:((((w6).setCell ⟨ab,0,none⟩ (.bool false)).setCell ⟨ab,1,none⟩ (.slice none 0 0)).setCell ⟨ab,2,none⟩ (.slice A2 n2 c2)).heap[ab]?=some (.cells #[.bool false,.slice none 0 0,.slice A2 n2 c2,.slice none 0 0] 53 (0,0)):=blk_put hA61 2 (.slice A2 n2 c2) rfl
  have hA63:(((((w6).setCell ⟨ab,0,none⟩ (.bool false)).setCell ⟨ab,1,none⟩ (.slice none 0 0)).setCell ⟨ab,2,none⟩ (.slice A2 n2 c2)).setCell ⟨ab,3,none⟩ (.slice A3 n3 c3)).heap[ab]?=some (.cells #[.bool false,.slice none 0 0,.slice A2 n2 c2,.slice A3 n3 c3] 53 (0,0)):=blk_put hA62 3 (.slice A3 n3 c3) rfl
  refine bodyPost_ret (results_c rfl _ _ ab 53 _ (0,0) _ rfl hA63 Tryz.underlying53 rfl (by kernel_rfl)) rfl ?_
  refine ⟨false,none,0,0,A2,n2,c2,A3,n3,c3,sum,M',rfl,HAN.out,⟨fun h=>absurd h (by decide),fun h=>absurd h HSE.out⟩,⟨fun h=>absurd h (by decide),fun _=>⟨rfl,rfl,rfl⟩⟩,?_⟩
  exact Below.setCell (p:=⟨ab,3,none⟩) (Below.setCell (p:=⟨ab,2,none⟩) (Below.setCell (p:=⟨ab,1,none⟩) (Below.setCell (p:=⟨ab,0,none⟩) HB6.out hab0 _) hab0 _) hab0 _) hab0 _
end Go.Proofs.YtiioklboaookiaaGreatDoor.Q
namespace Go.Proofs.YtiioklboaookiaaGreatDoor.Q
open Go.RowKit Go.Proofs.YtiioklboaookiaaGreatDoorW.PrintWords Go.Proofs.YtiioklboaookiaaGreatDoorW.PrintLast Go.Proofs.YtiioklboaookiaaGreatDoor.Hand Go.Proofs.YtiioklboaookiaaGreatDoorW.PrintMore
attribute [local go_sem] max2_int min2_int max_two min_two max_three min_three max_four min_four
set_option linter.unusedVariables false
set_option linter.unusedSimpArgs false
set_option maxHeartbeats 8000000 in
set_option maxRecDepth 100000 in
theorem Plan_walk (b:Nat) (A0:Option Addr) (c0:Nat) (l:List S76) (w:World) (hb0:1≤b) (hb:b≤8) (hl:l.length≤32) (hr:Kd.C k76 w A0 l.length l) (hv:∀ x,x ∈ l→jobOk x=true) (hz:NoneAt w)
  (hS:∀ M,Cut b l M (workF l)→(schedF M l.length (spansF l) (spansF l).length).length≤100000) :
  Calls Tryz.prog 14 #[.int .i64 b,.slice A0 l.length c0] w fun e w'=>∃ p AS nS cS A2 n2 c2 A3 n3 c3 sum M,e=.returned (.tuple #[.agg #[.bool p,.slice AS nS cS,.slice A2 n2 c2,.slice A3 n3 c3],.int .i64 0])∧Cut b l M sum∧(p=true ↔ sum=workF l)∧((p=true→Slots b l w.heap.size (.slice AS nS cS) w')∧(p=false→AS=none∧nS=0∧cS=0))∧Below w.heap.size w w':=by
 have HR:=Aside0.mk hr
 have HV:=hid hv
 have HZ:=hid hz
 have HSL:=hid hS
 have hzlt:0<w.heap.size:=World.block_lt_of_cell? w _ hz.1
 clear hr hv hz hS
 go_enter Tryz.func14,Tryz.ntmps14
 go_wp2_with (fail)
 obtain ⟨ab,hab⟩:∃ ab,ab=w.heap.size:=⟨_,rfl⟩
 obtain ⟨W2,hW2⟩:∃ W2,W2=w.alloc (.cells #[.bool false,.slice none 0 0,.slice none 0 0,.slice none 0 0] 53):=⟨_,rfl⟩
 have hb2:Below w.heap.size w W2:=by rw [hW2];exact below_alloc (Below.refl _ _) _
 have HA2:=hid (show W2.heap[ab]?=some (.cells #[.bool false,.slice none 0 0,.slice none 0 0,.slice none 0 0] 53 (0,0)) by rw [hW2,hab];exact blk_new _ _)
 rw [← hW2,← hab]
 have HAB:=hid hab
 have HB2:=Aside0.mk (show Below ab w W2 by rw [hab];exact hb2)
 have HR2:=Aside0.mk (Kd.C_below HR.out hb2)
 have HZ2:=hid (HZ.out.below hb2)
 clear hW2 hab hb2
 refine (btask_walk b A0 c0 l W2 hb0 hb hl HR2.out HV.out).mono ?_
 rintro e w3 ⟨rfl,hb3⟩
 have HA3:=hid (show w3.heap[ab]?=some (.cells #[.bool false,.slice none 0 0,.slice none 0 0,.slice none 0 0] 53 (0,0)) from (hb3.block ab (lt_of_some HA2.out)).trans HA2.out)
 have HB3:=Aside0.mk (HB2.out.trans (hb3.mono (Nat.le_of_lt (lt_of_some HA2.out))))
 have HR3:=Aside0.mk (Kd.C_below HR2.out hb3)
 have HZ3:=hid (HZ2.out.below hb3)
 clear hb3 HA2 HB2 HR2 HZ2
 go_wp2_with (fail)
 obtain ⟨W4,hW4⟩:∃ W4,W4=w3.alloc (.cells #[.int .i64 b,.slice A0 l.length c0] 112):=⟨_,rfl⟩
 have hb4:Below w3.heap.size w3 W4:=by rw [hW4];exact below_alloc (Below.refl _ _) _
 rw [← hW4]
 clear hW4
 have HA4:=hid (show W4.heap[ab]?=some (.cells #[.bool false,.slice none 0 0,.slice none 0 0,.slice none 0 0] 53 (0,0)) from (hb4.block ab (lt_of_some HA3.out)).trans HA3.out)
 have HB4:=Aside0.mk (HB3.out.trans (hb4.mono (Nat.le_of_lt (lt_of_some HA3.out))))
 have HR4:=Aside0.mk (Kd.C_below HR3.out hb4)
 have HZ4:=hid (HZ3.out.below hb4)
 clear hb4 HA3 HB3 HR3 HZ3
 refine (bplan_walk b A0 c0 l W4 hb hl HR4.out HV.out HZ4.out HSL.out).mono ?_
 rintro e w6 ⟨p,AS,nS,cS,A2,n2,c2,A3,n3,c3,sum,M,rfl,hC,hp,hs,hb6⟩
 have HA6:=hid (show w6.heap[ab]?=some (.cells #[.bool false,.slice none 0 0,.slice none 0 0,.slice none 0 0] 53 (0,0)) from (hb6.block ab (lt_of_some HA4.out)).trans HA4.out)
 have HB6:=Aside0.mk (HB4.out.trans (hb6.mono (Nat.le_of_lt (lt_of_some HA4.out))))
 have HLE:=hid (show ab≤W4.heap.size from Nat.le_of_lt (lt_of_some HA4.out))
 have HC:=hid hC
 have HPP:=hid hp
 have HS:=hid hs
 clear hb6 HA4 HB4 HR4 HZ4 hC hp hs
 have f0:∀ j,w6.frozen? ⟨ab,j,none⟩=false:=fun j=>by simp [World.frozen?,HA6.out]
 have z0:w6.cell? ⟨ab,0,none⟩=some (.bool false):=by simp [World.cell?,HA6.out]
 have z1:w6.cell? ⟨ab,1,none⟩=some (.slice none 0 0):=by simp [World.cell?,HA6.out]
 have z2:w6.cell? ⟨ab,2,none⟩=some (.slice none 0 0):=by simp [World.cell?,HA6.out]
 have z3:w6.cell? ⟨ab,3,none⟩=some (.slice none 0 0):=by simp [World.cell?,HA6.out]
 go_wp2_with (fail)
 have hA6:w6.heap[ab]?=some (.cells #[.bool false,.slice none 0 0,.slice none 0 0,.slice none 0 0] 53 (0,0)):=HA6.out
 have hA60:((w6).setCell ⟨ab,0,none⟩ (.bool p)).heap[ab]?=some (.cells #[.bool p,.slice none 0 0,.slice none 0 0,.slice none 0 0] 53 (0,0)):=blk_put hA6 0 (.bool p) rfl
 have hA61:(((w6).setCell ⟨ab,0,none⟩ (.bool p)).setCell ⟨ab,1,none⟩ (.slice AS nS cS)).heap[ab]?=some (.cells #[.bool p,.slice AS nS cS,.slice none 0 0,.slice none 0 0] 53 (0,0)):=blk_put hA60 1 (.slice AS nS cS) rfl
 have hA62:((((w6).setCell ⟨ab,0,none⟩ (.bool p)).setCell ⟨ab,1,none⟩ (.slice AS nS cS)).setCell ⟨ab,2,none⟩ (.slice A2 n2 c2)).heap[ab]?=some (.cells #[.bool p,.slice AS nS cS,.slice A2 n2 c2,.slice none 0 0] 53 (0,0)):=blk_put hA61 2 (.slice A2 n2 c2) rfl
 have hA63:(((((w6).setCell ⟨ab,0,none⟩ (.bool p)).setCell ⟨ab,1,none⟩ (.slice AS nS cS)).setCell ⟨ab,2,none⟩ (.slice A2 n2 c2)).setCell ⟨ab,3,none⟩ (.slice A3 n3 c3)).heap[ab]?=some (.cells #[.bool p,.slice AS nS cS,.slice A2 n2 c2,.slice A3 n3 c3] 53 (0,0)):=blk_put hA62 3 (.slice A3 n3 c3) rfl
 refine bodyPost_ret (results_ct rfl _ _ ab 53 _ (0,0) _ rfl hA63 Tryz.underlying53 rfl (by kernel_rfl)) rfl ?_
 rw [← HAB.out]
 refine ⟨p,AS,nS,cS,A2,n2,c2,A3,n3,c3,sum,M,rfl,HC.out,HPP.out,⟨fun hp=>?_,HS.out.2⟩,?_⟩
 ·obtain ⟨M6,L6,g1,g2,g3⟩:=(HS.out.1 hp).ex
  exact ⟨M6,L6,g1,g2,Kd.R_set (Kd.R_set (Kd.R_set (Kd.R_set (Kd.R_lower g3 HLE.out) hA6 (by decide) 0 (.bool p)) hA60 (by decide) 1 (.slice AS nS cS)) hA61 (by decide) 2 (.slice A2 n2 c2)) hA62 (by decide) 3 (.slice A3 n3 c3)⟩
 ·exact Below.setCell (p:=⟨ab,3,none⟩) (Below.setCell (p:=⟨ab,2,none⟩) (Below.setCell (p:=⟨ab,1,none⟩) (Below.setCell (p:=⟨ab,0,none⟩) HB6.out (Nat.le_refl _) _) (Nat.le_refl _) _) (Nat.le_refl _) _) (Nat.le_refl _) _
end Go.Proofs.YtiioklboaookiaaGreatDoor.Q
namespace Go.Proofs.YtiioklboaookiaaGreatDoor.Q
open Go.RowKit Go.Proofs.YtiioklboaookiaaGreatDoorW.PrintWords Go.Proofs.YtiioklboaookiaaGreatDoorW.PrintLast Go.Proofs.YtiioklboaookiaaGreatDoor.Hand Go.Proofs.YtiioklboaookiaaGreatDoorW.PrintMore
attribute [local go_sem] max2_int min2_int max_two min_two max_three min_three max_four min_four
set_option linter.unusedVariables false
set_option linter.unusedSimpArgs false
def pieceV (B:Nat):Value:=.func (.func 94) #[] #[.pointer (some ⟨B+4,0,none⟩),.pointer (some ⟨B+1,0,none⟩),.pointer (some ⟨B,0,none⟩),.pointer (some ⟨B+3,0,none⟩),.pointer (some ⟨B+5,0,none⟩)]
structure RdAt (B W H:Nat) (bl pl:Value) (i:Nat) (s ar:Int) (w:World):Prop where
 x:w.heap[B]?=some (.cells #[.int .i64 W,.int .i64 H,bl] 78 (0,0))
 p:w.heap[B+1]?=some (.cells #[pl] 27 (0,0))
 r:w.heap[B+2]?=some (.cells #[.int .i64 0,.int .i64 0] 98 (0,0))
 s:w.heap[B+3]?=some (.cells #[.int .i64 s,.int .i64 ar] 98 (0,0))
 a:w.heap[B+4]?=some (.cells #[.int .i64 i] 3 (0,0))
 f:w.heap[B+5]?=some (.cells #[pieceV B] 143 (0,0))
structure RdKeep (B:Nat) (w w' : World):Prop where
 bel:Below B w w'
 blk:∀ k,k<w.heap.size→k≠B+3→k≠B+4→w'.heap[k]?=w.heap[k]?
theorem RdKeep.size {B:Nat} {w w' : World} (h:RdKeep B w w'):w.heap.size≤w'.heap.size:=h.bel.size
theorem RdKeep.trans {B:Nat} {a b c:World} (h:RdKeep B a b) (k:RdKeep B b c):RdKeep B a c :=
 ⟨h.bel.trans k.bel,fun i hi h3 h4=>(k.blk i (Nat.lt_of_lt_of_le hi h.size) h3 h4).trans (h.blk i hi h3 h4)⟩
theorem RdKeep.of {B:Nat} {w w' : World} (h:Below w.heap.size w w') (hB:B≤w.heap.size):RdKeep B w w':=⟨h.mono hB,fun k hk _ _=>h.block k hk⟩
theorem RdKeep.set {B:Nat} {w w' : World} (h:RdKeep B w w') {p:Addr} (hp:p.block=B+3∨p.block=B+4∨w.heap.size≤p.block) (hB:B≤w.heap.size) (v:Value):RdKeep B w (w'.setCell p v) :=
 ⟨h.bel.setCell (by omega) v,fun k hk h3 h4=>(Below.heap_setCell w' p v k (by omega)).trans (h.blk k hk h3 h4)⟩
theorem RdAt.lt {B W H:Nat} {bl pl:Value} {i:Nat} {s ar:Int} {w:World} (h:RdAt B W H bl pl i s ar w):B+5<w.heap.size:=lt_of_some h.f
def readF (l:List S76) (P:List S34):Nat→Nat→Nat→Nat→Int→Int→Option (Nat × Int × Int)
 | 0,_,_,_,_,_=>none
 | k+1,x,y,i,s,ar=>if i<P.length then
  (let t:=rd_T34 P (i:Int)
  if t.f0=0 then (if t.f1=0 then some (i+1,s,ar) else none) else
  if t.f0=1 then (if 0≤t.f1∧t.f1<(l.length:Int) then
   (let b:=rd_T76 l t.f1
   if b.f0≤(x:Int)∧b.f1≤(y:Int) then some (i+1,wrap64 (s+b.f2),wrap64 (ar+wrap64 (b.f0*b.f1))) else none) else none) else
  if t.f0=2 then (if 1≤t.f1∧t.f1<(x:Int) then (readF l P k t.f1.toNat y (i+1) s ar).bind fun r=>readF l P k (x-t.f1.toNat) y r.1 r.2.1 r.2.2 else none) else
  if t.f0=3 then (if 1≤t.f1∧t.f1<(y:Int) then (readF l P k x t.f1.toNat (i+1) s ar).bind fun r=>readF l P k x (y-t.f1.toNat) r.1 r.2.1 r.2.2 else none) else none) else none
def PieceSaid (W0:World) (B W H:Nat) (bl pl:Value) (x y i:Nat) (s ar:Int) (i' : Nat) (s' ar' : Int):Prop:=∀ w,Below B W0 w→RdAt B W H bl pl i s ar w →
 Calls Tryz.prog 94 #[.int .i64 x,.int .i64 y,.pointer (some ⟨B+4,0,none⟩),.pointer (some ⟨B+1,0,none⟩),.pointer (some ⟨B,0,none⟩),.pointer (some ⟨B+3,0,none⟩),.pointer (some ⟨B+5,0,none⟩)] w fun e w'=>e=.returned (.bool true)∧RdAt B W H bl pl i' s' ar' w'∧RdKeep B w w'
theorem RdAt.step {B W H:Nat} {bl pl:Value} {i:Nat} {s ar:Int} {w:World} (h:RdAt B W H bl pl i s ar w) (o:Obj):RdAt B W H bl pl (i+1) s ar ((w.setCell ⟨B+4,0,none⟩ (.int .i64 ((i:Int)+1))).alloc o) where
 x:=blk_alloc ((Below.heap_setCell w ⟨B+4,0,none⟩ _ B (show B≠B+4 by omega)).trans h.x) o
 p:=blk_alloc ((Below.heap_setCell w ⟨B+4,0,none⟩ _ (B+1) (show B+1≠B+4 by omega)).trans h.p) o
 r:=blk_alloc ((Below.heap_setCell w ⟨B+4,0,none⟩ _ (B+2) (show B+2≠B+4 by omega)).trans h.r) o
 s:=blk_alloc ((Below.heap_setCell w ⟨B+4,0,none⟩ _ (B+3) (show B+3≠B+4 by omega)).trans h.s) o
 a:=blk_alloc (blk_put h.a 0 _ rfl) o
 f:=blk_alloc ((Below.heap_setCell w ⟨B+4,0,none⟩ _ (B+5) (show B+5≠B+4 by omega)).trans h.f) o
theorem RdKeep.step {B:Nat} {w:World} (hB:B+5<w.heap.size) (v:Value) (o:Obj):RdKeep B w ((w.setCell ⟨B+4,0,none⟩ v).alloc o):=by
 have h1:RdKeep B w (w.setCell ⟨B+4,0,none⟩ v):=RdKeep.set (RdKeep.of (Below.refl _ _) (by omega)) (p:=⟨B+4,0,none⟩) (.inr (.inl rfl)) (by omega) v
 exact h1.trans (RdKeep.of (below_alloc (Below.refl _ _) o) (by simp;omega))
theorem RdAt.more {B W H:Nat} {bl pl:Value} {i:Nat} {s ar:Int} {w w1:World} (h:RdAt B W H bl pl i s ar w) (hb:Below w.heap.size w w1):RdAt B W H bl pl i s ar w1:=by
 have:=h.lt
 exact ⟨(hb.block _ (by omega)).trans h.x,(hb.block _ (by omega)).trans h.p,(hb.block _ (by omega)).trans h.r,(hb.block _ (by omega)).trans h.s,(hb.block _ (by omega)).trans h.a,(hb.block _ (by omega)).trans h.f⟩
theorem RdAt.sum {B W H:Nat} {bl pl:Value} {i:Nat} {s ar:Int} {w:World} (h:RdAt B W H bl pl i s ar w) (s' ar' : Int):RdAt B W H bl pl i s' ar' ((w.setCell ⟨B+3,0,none⟩ (.int .i64 s')).setCell ⟨B+3,1,none⟩ (.int .i64 ar')):=by
 have far:∀ k,k≠B+3→((w.setCell ⟨B+3,0,none⟩ (.int .i64 s')).setCell ⟨B+3,1,none⟩ (.int .i64 ar')).heap[k]?=w.heap[k]?:=fun k hk =>
  (Below.heap_setCell _ ⟨B+3,1,none⟩ _ k hk).trans (Below.heap_setCell w ⟨B+3,0,none⟩ _ k hk)
 exact ⟨(far _ (by omega)).trans h.x,(far _ (by omega)).trans h.p,(far _ (by omega)).trans h.r,blk_put (blk_put h.s 0 _ rfl) 1 _ rfl,(far _ (by omega)).trans h.a,(far _ (by omega)).trans h.f⟩
set_option maxHeartbeats 8000000 in
set_option maxRecDepth 100000 in
theorem piece_waste (W0:World) (B W H:Nat) (A0:Option Addr) (c0:Nat) (l:List S76) (A1:Option Addr) (c1:Nat) (P:List S34) (hP:P.length≤8192) (hl:l.length≤16) (hr:∀ w,Below B W0 w→Kd.C k34 w A1 P.length P) (hrb:∀ w,Below B W0 w→Kd.C k76 w A0 l.length l) (x y i:Nat) (s ar:Int) (hi:i<P.length)
  (h0:(rd_T34 P (i:Int)).f0=0) (h1:(rd_T34 P (i:Int)).f1=0):PieceSaid W0 B W H (.slice A0 l.length c0) (.slice A1 P.length c1) x y i s ar (i+1) s ar:=by
 intro w hb0 h
 obtain ⟨ad,e0,hx0,hx1⟩:=at_T34 (hr w hb0) (i:Int) (by omega) (by omega)
 rw [Int.toNat_natCast] at hx0 hx1
 rw [h0] at hx0
 rw [h1] at hx1
 cases e0
 have hlt:=h.lt
 have n5:B+5<w.heap.size:=by omega
 have n4:B+4<w.heap.size:=by omega
 have n3:B+3<w.heap.size:=by omega
 have n1:B+1<w.heap.size:=by omega
 have n0:B<w.heap.size:=by omega
 have x0_:w.cell? ⟨B,2,none⟩=some (.slice A0 l.length c0):=by simp [World.cell?,h.x]
 have c1_:w.cell? ⟨B+1,0,none⟩=some (.slice (some ad) P.length c1):=by simp [World.cell?,h.p]
 have c4_:w.cell? ⟨B+4,0,none⟩=some (.int .i64 i):=by simp [World.cell?,h.a]
 have c5_:w.cell? ⟨B+5,0,none⟩=some (pieceV B):=by simp [World.cell?,h.f]
 have c30_:w.cell? ⟨B+3,0,none⟩=some (.int .i64 s):=by simp [World.cell?,h.s]
 have c31_:w.cell? ⟨B+3,1,none⟩=some (.int .i64 ar):=by simp [World.cell?,h.s]
 have f4_:w.frozen? ⟨B+4,0,none⟩=false:=by simp [World.frozen?,h.a]
 have f30_:w.frozen? ⟨B+3,0,none⟩=false:=by simp [World.frozen?,h.s]
 have f31_:w.frozen? ⟨B+3,1,none⟩=false:=by simp [World.frozen?,h.s]
 have i0:(0:Int)≤(i:Int):=by omega
 have i1:(i:Int)<(P.length:Int):=by omega
 have ne:((i:Int) == (P.length:Int))=false:=beq_eq_false_iff_ne.2 (by omega)
 have hP1:(P.length:Int)≤8192:=by omega
 have hl1:(l.length:Int)≤16:=by omega
 have HS:=hid h
 clear h hr hrb h0 h1
 go_enter Tryz.func94,Tryz.ntmps94
 go_wp2_with (fail)
 go_ret
 exact ⟨rfl,HS.out.step _,RdKeep.step hlt _ _⟩
set_option maxHeartbeats 8000000 in
set_option maxRecDepth 100000 in
theorem piece_make (W0:World) (B W H:Nat) (A0:Option Addr) (c0:Nat) (l:List S76) (A1:Option Addr) (c1:Nat) (P:List S34) (hP:P.length≤8192) (hl:l.length≤16) (hr:∀ w,Below B W0 w→Kd.C k34 w A1 P.length P) (hrb:∀ w,Below B W0 w→Kd.C k76 w A0 l.length l) (x y i:Nat) (s ar:Int) (j:Nat) (hi:i<P.length) (hj:j<l.length)
  (h0:(rd_T34 P (i:Int)).f0=1) (h1:(rd_T34 P (i:Int)).f1=(j:Int)) (hb:(rd_T76 l (j:Int)).f0≤(x:Int)∧(rd_T76 l (j:Int)).f1≤(y:Int)) :
  PieceSaid W0 B W H (.slice A0 l.length c0) (.slice A1 P.length c1) x y i s ar (i+1) (wrap64 (s+(rd_T76 l (j:Int)).f2)) (wrap64 (ar+wrap64 ((rd_T76 l (j:Int)).f0*(rd_T76 l (j:Int)).f1))):=by
 intro w hb0 h
 obtain ⟨ad,e0,hx0,hx1⟩:=at_T34 (hr w hb0) (i:Int) (by omega) (by omega)
 rw [Int.toNat_natCast] at hx0 hx1
 rw [h0] at hx0
 rw [h1] at hx1
 cases e0
 have hlt:=h.lt
 have n4:B+4<w.heap.size:=by omega
 have n1:B+1<w.heap.size:=by omega
 have n0:B<w.heap.size:=by omega
 have x0_:w.cell? ⟨B,2,none⟩=some (.slice A0 l.length c0):=by simp [World.cell?,h.x]
 have c1_:w.cell? ⟨B+1,0,none⟩=some (.slice (some ad) P.length c1):=by simp [World.cell?,h.p]
 have c4_:w.cell? ⟨B+4,0,none⟩=some (.int .i64 i):=by simp [World.cell?,h.a]
 have f4_:w.frozen? ⟨B+4,0,none⟩=false:=by simp [World.frozen?,h.a]
 have i0:(0:Int)≤(i:Int):=by omega
 have i1:(i:Int)<(P.length:Int):=by omega
 have ne:((i:Int) == (P.length:Int))=false:=beq_eq_false_iff_ne.2 (by omega)
 have hP1:(P.length:Int)≤8192:=by omega
 have hl1:(l.length:Int)≤16:=by omega
 have HS:=hid h
 have HB0:=Aside0.mk hb0
 clear h hb0
 obtain ⟨bl,hbl⟩:∃ bl,bl=rd_T76 l (j:Int):=⟨_,rfl⟩
 rw [← hbl] at hb ⊢
 have j0:(0:Int)≤(j:Int):=by omega
 have j1:(j:Int)<(l.length:Int):=by omega
 have d1:decide (bl.f0≤(x:Int))=true:=decide_eq_true hb.1
 have d2:decide (bl.f1≤(y:Int))=true:=decide_eq_true hb.2
 have s1:IntKind.i64.wrap ((l.length:Int)-1)=(l.length:Int)-1:=IntWalk.i64_in _ (by omega)
 have HRB:=hid hrb
 have HBL:=hid hbl
 clear hr hrb h0 h1 hbl hb
 go_enter Tryz.func94,Tryz.ntmps94
 go_wp2_with (fail)
 obtain ⟨w1,hw1⟩:∃ w1,w1=((w.setCell ⟨B+4,0,none⟩ (.int .i64 ((i:Int)+1))).alloc (.cells #[.int .i64 1,.int .i64 (j:Int)] 34)):=⟨_,rfl⟩
 have HS1:Hid (RdAt B W H (.slice A0 l.length c0) (.slice (some ad) P.length c1) (i+1) s ar w1):=by show RdAt _ _ _ _ _ _ _ _ w1;rw [hw1];exact HS.out.step _
 have HK1:Hid (RdKeep B w w1):=by show RdKeep _ _ _;rw [hw1];exact RdKeep.step hlt _ _
 have hsz:w1.heap.size=w.heap.size+1:=by rw [hw1];simp
 have g0:w1.cell? ⟨w.heap.size,0,none⟩=some (.int .i64 1):=by rw [hw1,show w.heap.size=(w.setCell ⟨B+4,0,none⟩ (.int .i64 ((i:Int)+1))).heap.size from by simp,World.cell?_alloc_new];rfl
 have g1:w1.cell? ⟨w.heap.size,1,none⟩=some (.int .i64 (j:Int)):=by rw [hw1,show w.heap.size=(w.setCell ⟨B+4,0,none⟩ (.int .i64 ((i:Int)+1))).heap.size from by simp,World.cell?_alloc_new];rfl
 rw [← hw1]
 clear hw1 x0_ c1_ c4_ f4_ n4 n1 n0 HS
 have hlt:=HS1.out.lt
 have n5:B+5<w1.heap.size:=by omega
 have n4:B+4<w1.heap.size:=by omega
 have n3:B+3<w1.heap.size:=by omega
 have n1:B+1<w1.heap.size:=by omega
 have n0:B<w1.heap.size:=by omega
 have ng:w.heap.size<w1.heap.size:=by omega
 have HSZ:=hid hsz
 clear hsz
 obtain ⟨ad0,e0,_⟩:=at_T76 (HRB.out w1 (HB0.out.trans HK1.out.bel)) (j:Int) (by omega) (by omega)
 cases e0
 have x0_:w1.cell? ⟨B,2,none⟩=some (.slice (some ad0) l.length c0):=by simp [World.cell?,HS1.out.x]
 refine (within_yes (a:=(j:Int)) (by omega) (by omega) _).mono ?_
 rintro e w2 ⟨rfl,hd⟩
 have HS2:Hid (RdAt B W H (.slice (some ad0) l.length c0) (.slice (some ad) P.length c1) (i+1) s ar w2):=by obtain ⟨n,rfl⟩:=hd;exact HS1.out.more (pw_below_drewN (Below.refl _ _) n)
 have HK2:Hid (RdKeep B w w2):=by obtain ⟨n,rfl⟩:=hd;exact HK1.out.trans (RdKeep.of (pw_below_drewN (Below.refl _ _) n) (by omega))
 have ng2:w.heap.size<w2.heap.size:=by obtain ⟨n,rfl⟩:=hd;exact ng
 have q0:w2.cell? ⟨w.heap.size,0,none⟩=some (.int .i64 1):=by obtain ⟨n,rfl⟩:=hd;exact g0
 have q1:w2.cell? ⟨w.heap.size,1,none⟩=some (.int .i64 (j:Int)):=by obtain ⟨n,rfl⟩:=hd;exact g1
 clear hd g0 g1 ng n0 n1 n3 n4 n5 HS1 HK1 HSZ
 have hlt2:=HS2.out.lt
 have n5:B+5<w2.heap.size:=by omega
 have n4:B+4<w2.heap.size:=by omega
 have n3:B+3<w2.heap.size:=by omega
 have n0:B<w2.heap.size:=by omega
 obtain ⟨ae,e1,hy0,hy1,hy2⟩:=at_T76 (HRB.out w2 (HB0.out.trans HK2.out.bel)) (j:Int) (by omega) (by omega)
 rw [Int.toNat_natCast] at hy0 hy1 hy2
 rw [← HBL.out] at hy0 hy1 hy2
 obtain rfl:ad0=ae:=by injection e1
 have x0_:w2.cell? ⟨B,2,none⟩=some (.slice (some ad0) l.length c0):=by simp [World.cell?,HS2.out.x]
 have c30_:w2.cell? ⟨B+3,0,none⟩=some (.int .i64 s):=by simp [World.cell?,HS2.out.s]
 have c31_:w2.cell? ⟨B+3,1,none⟩=some (.int .i64 ar):=by simp [World.cell?,HS2.out.s]
 have f30_:w2.frozen? ⟨B+3,0,none⟩=false:=by simp [World.frozen?,HS2.out.s]
 have f31_:w2.frozen? ⟨B+3,1,none⟩=false:=by simp [World.frozen?,HS2.out.s]
 go_wp2_with (fail)
 go_ret
 refine ⟨rfl,(HS2.out.sum _ _).more (below_alloc (Below.refl _ _) _),HK2.out.trans ?_⟩
 refine (RdKeep.set (p:=⟨B+3,1,none⟩) (RdKeep.set (p:=⟨B+3,0,none⟩) (RdKeep.of (Below.refl w2.heap.size w2) (by omega)) (.inl rfl) (by omega) _) (.inl rfl) (by omega) _).trans (RdKeep.of (below_alloc (Below.refl _ _) _) (by simp;omega))
set_option maxHeartbeats 8000000 in
set_option maxRecDepth 100000 in
theorem piece_across (W0:World) (B W H:Nat) (A0:Option Addr) (c0:Nat) (l:List S76) (A1:Option Addr) (c1:Nat) (P:List S34) (hP:P.length≤8192) (hl:l.length≤16) (hr:∀ w,Below B W0 w→Kd.C k34 w A1 P.length P) (hrb:∀ w,Below B W0 w→Kd.C k76 w A0 l.length l) (x y i:Nat) (s ar:Int) (a:Nat) (i1_:Nat) (s1_ ar1_:Int) (i2_:Nat) (s2_ ar2_:Int) (hi:i<P.length) (ha1:1≤a) (hax:a<x) (hdim:x<1000)
  (h0:(rd_T34 P (i:Int)).f0=2) (h1:(rd_T34 P (i:Int)).f1=(a:Int))
  (ihp:PieceSaid W0 B W H (.slice A0 l.length c0) (.slice A1 P.length c1) a y (i+1) s ar i1_ s1_ ar1_) (ihq:PieceSaid W0 B W H (.slice A0 l.length c0) (.slice A1 P.length c1) (x-a) y i1_ s1_ ar1_ i2_ s2_ ar2_) :
  PieceSaid W0 B W H (.slice A0 l.length c0) (.slice A1 P.length c1) x y i s ar i2_ s2_ ar2_:=by
 intro w hb0 h
 obtain ⟨ad,e0,hx0,hx1⟩:=at_T34 (hr w hb0) (i:Int) (by omega) (by omega)
 rw [Int.toNat_natCast] at hx0 hx1
 rw [h0] at hx0
 rw [h1] at hx1
 cases e0
 have hlt:=h.lt
 have n4:B+4<w.heap.size:=by omega
 have n1:B+1<w.heap.size:=by omega
 have n0:B<w.heap.size:=by omega
 have x0_:w.cell? ⟨B,2,none⟩=some (.slice A0 l.length c0):=by simp [World.cell?,h.x]
 have c1_:w.cell? ⟨B+1,0,none⟩=some (.slice (some ad) P.length c1):=by simp [World.cell?,h.p]
 have c4_:w.cell? ⟨B+4,0,none⟩=some (.int .i64 i):=by simp [World.cell?,h.a]
 have f4_:w.frozen? ⟨B+4,0,none⟩=false:=by simp [World.frozen?,h.a]
 have i0:(0:Int)≤(i:Int):=by omega
 have i1:(i:Int)<(P.length:Int):=by omega
 have ne:((i:Int) == (P.length:Int))=false:=beq_eq_false_iff_ne.2 (by omega)
 have hP1:(P.length:Int)≤8192:=by omega
 have hl1:(l.length:Int)≤16:=by omega
 have HS:=hid h
 have HB0:=Aside0.mk hb0
 clear h hb0
 have IHP:=hid ihp
 have IHQ:=hid ihq
 have s1:IntKind.i64.wrap ((x:Int)-1)=(x:Int)-1:=IntWalk.i64_in _ (by omega)
 have s7:IntKind.i64.wrap ((x:Int)-(a:Int))=((x-a:Nat):Int):=by rw [IntWalk.i64_in _ (by omega)];omega
 clear hr hrb h0 h1 ihp ihq
 go_enter Tryz.func94,Tryz.ntmps94
 go_wp2_with (fail)
 obtain ⟨w1,hw1⟩:∃ w1,w1=((w.setCell ⟨B+4,0,none⟩ (.int .i64 ((i:Int)+1))).alloc (.cells #[.int .i64 2,.int .i64 (a:Int)] 34)):=⟨_,rfl⟩
 have HS1:Hid (RdAt B W H (.slice A0 l.length c0) (.slice (some ad) P.length c1) (i+1) s ar w1):=by show RdAt _ _ _ _ _ _ _ _ w1;rw [hw1];exact HS.out.step _
 have HK1:Hid (RdKeep B w w1):=by show RdKeep _ _ _;rw [hw1];exact RdKeep.step hlt _ _
 have hsz:w1.heap.size=w.heap.size+1:=by rw [hw1];simp
 have g0:w1.cell? ⟨w.heap.size,0,none⟩=some (.int .i64 2):=by rw [hw1,show w.heap.size=(w.setCell ⟨B+4,0,none⟩ (.int .i64 ((i:Int)+1))).heap.size from by simp,World.cell?_alloc_new];rfl
 have g1:w1.cell? ⟨w.heap.size,1,none⟩=some (.int .i64 (a:Int)):=by rw [hw1,show w.heap.size=(w.setCell ⟨B+4,0,none⟩ (.int .i64 ((i:Int)+1))).heap.size from by simp,World.cell?_alloc_new];rfl
 rw [← hw1]
 clear hw1 x0_ c1_ c4_ f4_ n4 n1 n0 HS
 have hlt:=HS1.out.lt
 have n5:B+5<w1.heap.size:=by omega
 have n4:B+4<w1.heap.size:=by omega
 have n3:B+3<w1.heap.size:=by omega
 have n1:B+1<w1.heap.size:=by omega
 have n0:B<w1.heap.size:=by omega
 have ng:w.heap.size<w1.heap.size:=by omega
 have HSZ:=hid hsz
 clear hsz
 refine (within_yes (a:=(a:Int)) (by omega) (by omega) _).mono ?_
 rintro e w2 ⟨rfl,hd⟩
 have HS2:Hid (RdAt B W H (.slice A0 l.length c0) (.slice (some ad) P.length c1) (i+1) s ar w2):=by obtain ⟨n,rfl⟩:=hd;exact HS1.out.more (pw_below_drewN (Below.refl _ _) n)
 have HK2:Hid (RdKeep B w w2):=by obtain ⟨n,rfl⟩:=hd;exact HK1.out.trans (RdKeep.of (pw_below_drewN (Below.refl _ _) n) (by omega))
 have ng2:w.heap.size<w2.heap.size:=by obtain ⟨n,rfl⟩:=hd;exact ng
 have q0:w2.cell? ⟨w.heap.size,0,none⟩=some (.int .i64 2):=by obtain ⟨n,rfl⟩:=hd;exact g0
 have q1:w2.cell? ⟨w.heap.size,1,none⟩=some (.int .i64 (a:Int)):=by obtain ⟨n,rfl⟩:=hd;exact g1
 clear hd g0 g1 ng n0 n1 n3 n4 n5 HS1 HK1 HSZ
 have hlt2:=HS2.out.lt
 have n5:B+5<w2.heap.size:=by omega
 have n4:B+4<w2.heap.size:=by omega
 have n3:B+3<w2.heap.size:=by omega
 have n0:B<w2.heap.size:=by omega
 have c5_:w2.cell? ⟨B+5,0,none⟩=some (pieceV B):=by simp [World.cell?,HS2.out.f]
 unfold pieceV at c5_
 go_wp2_with (fail)
 refine (IHP.out w2 (HB0.out.trans HK2.out.bel) HS2.out).mono ?_
 rintro e w3 ⟨rfl,hS3,hK3⟩
 have HS3:=hid hS3
 have HK3:=hid hK3
 have p0:w3.cell? ⟨w.heap.size,0,none⟩=some (.int .i64 2):=by rw [← q0];unfold World.cell?;rw [hK3.blk w.heap.size ng2 (by omega) (by omega)]
 have p1:w3.cell? ⟨w.heap.size,1,none⟩=some (.int .i64 (a:Int)):=by rw [← q1];unfold World.cell?;rw [hK3.blk w.heap.size ng2 (by omega) (by omega)]
 have k5_:w3.cell? ⟨B+5,0,none⟩=some (pieceV B):=by simp [World.cell?,hS3.f]
 unfold pieceV at k5_
 clear hS3 hK3 q0 q1 c5_
 go_wp2_with (fail)
 refine (IHQ.out w3 ((HB0.out.trans HK2.out.bel).trans HK3.out.bel) HS3.out).mono ?_
 rintro e w4 ⟨rfl,hS4,hK4⟩
 have HS4:=hid hS4
 have HK4:=hid hK4
 clear hS4 hK4
 go_wp2_with (fail)
 go_ret
 exact ⟨rfl,HS4.out,(HK2.out.trans HK3.out).trans HK4.out⟩
set_option maxHeartbeats 8000000 in
set_option maxRecDepth 100000 in
theorem piece_along (W0:World) (B W H:Nat) (A0:Option Addr) (c0:Nat) (l:List S76) (A1:Option Addr) (c1:Nat) (P:List S34) (hP:P.length≤8192) (hl:l.length≤16) (hr:∀ w,Below B W0 w→Kd.C k34 w A1 P.length P) (hrb:∀ w,Below B W0 w→Kd.C k76 w A0 l.length l) (x y i:Nat) (s ar:Int) (a:Nat) (i1_:Nat) (s1_ ar1_:Int) (i2_:Nat) (s2_ ar2_:Int) (hi:i<P.length) (ha1:1≤a) (hax:a<y) (hdim:y<1000)
  (h0:(rd_T34 P (i:Int)).f0=3) (h1:(rd_T34 P (i:Int)).f1=(a:Int))
  (ihp:PieceSaid W0 B W H (.slice A0 l.length c0) (.slice A1 P.length c1) x a (i+1) s ar i1_ s1_ ar1_) (ihq:PieceSaid W0 B W H (.slice A0 l.length c0) (.slice A1 P.length c1) x (y-a) i1_ s1_ ar1_ i2_ s2_ ar2_) :
  PieceSaid W0 B W H (.slice A0 l.length c0) (.slice A1 P.length c1) x y i s ar i2_ s2_ ar2_:=by
 intro w hb0 h
 obtain ⟨ad,e0,hx0,hx1⟩:=at_T34 (hr w hb0) (i:Int) (by omega) (by omega)
 rw [Int.toNat_natCast] at hx0 hx1
 rw [h0] at hx0
 rw [h1] at hx1
 cases e0
 have hlt:=h.lt
 have n4:B+4<w.heap.size:=by omega
 have n1:B+1<w.heap.size:=by omega
 have n0:B<w.heap.size:=by omega
 have x0_:w.cell? ⟨B,2,none⟩=some (.slice A0 l.length c0):=by simp [World.cell?,h.x]
 have c1_:w.cell? ⟨B+1,0,none⟩=some (.slice (some ad) P.length c1):=by simp [World.cell?,h.p]
 have c4_:w.cell? ⟨B+4,0,none⟩=some (.int .i64 i):=by simp [World.cell?,h.a]
 have f4_:w.frozen? ⟨B+4,0,none⟩=false:=by simp [World.frozen?,h.a]
 have i0:(0:Int)≤(i:Int):=by omega
 have i1:(i:Int)<(P.length:Int):=by omega
 have ne:((i:Int) == (P.length:Int))=false:=beq_eq_false_iff_ne.2 (by omega)
 have hP1:(P.length:Int)≤8192:=by omega
 have hl1:(l.length:Int)≤16:=by omega
 have HS:=hid h
 have HB0:=Aside0.mk hb0
 clear h hb0
 have IHP:=hid ihp
 have IHQ:=hid ihq
 have s1:IntKind.i64.wrap ((y:Int)-1)=(y:Int)-1:=IntWalk.i64_in _ (by omega)
 have s7:IntKind.i64.wrap ((y:Int)-(a:Int))=((y-a:Nat):Int):=by rw [IntWalk.i64_in _ (by omega)];omega
 clear hr hrb h0 h1 ihp ihq
 go_enter Tryz.func94,Tryz.ntmps94
 go_wp2_with (fail)
 obtain ⟨w1,hw1⟩:∃ w1,w1=((w.setCell ⟨B+4,0,none⟩ (.int .i64 ((i:Int)+1))).alloc (.cells #[.int .i64 3,.int .i64 (a:Int)] 34)):=⟨_,rfl⟩
 have HS1:Hid (RdAt B W H (.slice A0 l.length c0) (.slice (some ad) P.length c1) (i+1) s ar w1):=by show RdAt _ _ _ _ _ _ _ _ w1;rw [hw1];exact HS.out.step _
 have HK1:Hid (RdKeep B w w1):=by show RdKeep _ _ _;rw [hw1];exact RdKeep.step hlt _ _
 have hsz:w1.heap.size=w.heap.size+1:=by rw [hw1];simp
 have g0:w1.cell? ⟨w.heap.size,0,none⟩=some (.int .i64 3):=by rw [hw1,show w.heap.size=(w.setCell ⟨B+4,0,none⟩ (.int .i64 ((i:Int)+1))).heap.size from by simp,World.cell?_alloc_new];rfl
 have g1:w1.cell? ⟨w.heap.size,1,none⟩=some (.int .i64 (a:Int)):=by rw [hw1,show w.heap.size=(w.setCell ⟨B+4,0,none⟩ (.int .i64 ((i:Int)+1))).heap.size from by simp,World.cell?_alloc_new];rfl
 rw [← hw1]
 clear hw1 x0_ c1_ c4_ f4_ n4 n1 n0 HS
 have hlt:=HS1.out.lt
 have n5:B+5<w1.heap.size:=by omega
 have n4:B+4<w1.heap.size:=by omega
 have n3:B+3<w1.heap.size:=by omega
 have n1:B+1<w1.heap.size:=by omega
 have n0:B<w1.heap.size:=by omega
 have ng:w.heap.size<w1.heap.size:=by omega
 have HSZ:=hid hsz
 clear hsz
 refine (within_yes (a:=(a:Int)) (by omega) (by omega) _).mono ?_
 rintro e w2 ⟨rfl,hd⟩
 have HS2:Hid (RdAt B W H (.slice A0 l.length c0) (.slice (some ad) P.length c1) (i+1) s ar w2):=by obtain ⟨n,rfl⟩:=hd;exact HS1.out.more (pw_below_drewN (Below.refl _ _) n)
 have HK2:Hid (RdKeep B w w2):=by obtain ⟨n,rfl⟩:=hd;exact HK1.out.trans (RdKeep.of (pw_below_drewN (Below.refl _ _) n) (by omega))
 have ng2:w.heap.size<w2.heap.size:=by obtain ⟨n,rfl⟩:=hd;exact ng
 have q0:w2.cell? ⟨w.heap.size,0,none⟩=some (.int .i64 3):=by obtain ⟨n,rfl⟩:=hd;exact g0
 have q1:w2.cell? ⟨w.heap.size,1,none⟩=some (.int .i64 (a:Int)):=by obtain ⟨n,rfl⟩:=hd;exact g1
 clear hd g0 g1 ng n0 n1 n3 n4 n5 HS1 HK1 HSZ
 have hlt2:=HS2.out.lt
 have n5:B+5<w2.heap.size:=by omega
 have n4:B+4<w2.heap.size:=by omega
 have n3:B+3<w2.heap.size:=by omega
 have n0:B<w2.heap.size:=by omega
 have c5_:w2.cell? ⟨B+5,0,none⟩=some (pieceV B):=by simp [World.cell?,HS2.out.f]
 unfold pieceV at c5_
 go_wp2_with (fail)
 refine (IHP.out w2 (HB0.out.trans HK2.out.bel) HS2.out).mono ?_
 rintro e w3 ⟨rfl,hS3,hK3⟩
 have HS3:=hid hS3
 have HK3:=hid hK3
 have p0:w3.cell? ⟨w.heap.size,0,none⟩=some (.int .i64 3):=by rw [← q0];unfold World.cell?;rw [hK3.blk w.heap.size ng2 (by omega) (by omega)]
 have p1:w3.cell? ⟨w.heap.size,1,none⟩=some (.int .i64 (a:Int)):=by rw [← q1];unfold World.cell?;rw [hK3.blk w.heap.size ng2 (by omega) (by omega)]
 have k5_:w3.cell? ⟨B+5,0,none⟩=some (pieceV B):=by simp [World.cell?,hS3.f]
 unfold pieceV at k5_
 clear hS3 hK3 q0 q1 c5_
 go_wp2_with (fail)
 refine (IHQ.out w3 ((HB0.out.trans HK2.out.bel).trans HK3.out.bel) HS3.out).mono ?_
 rintro e w4 ⟨rfl,hS4,hK4⟩
 have HS4:=hid hS4
 have HK4:=hid hK4
 clear hS4 hK4
 go_wp2_with (fail)
 go_ret
 exact ⟨rfl,HS4.out,(HK2.out.trans HK3.out).trans HK4.out⟩
end Go.Proofs.YtiioklboaookiaaGreatDoor.Q
namespace Go.Proofs.YtiioklboaookiaaGreatDoor.Q
open Go.RowKit Go.Proofs.YtiioklboaookiaaGreatDoorW.PrintWords Go.Proofs.YtiioklboaookiaaGreatDoorW.PrintLast Go.Proofs.YtiioklboaookiaaGreatDoor.Hand Go.Proofs.YtiioklboaookiaaGreatDoorW.PrintMore
attribute [local go_sem] max2_int min2_int max_two min_two max_three min_three max_four min_four
set_option linter.unusedVariables false
set_option linter.unusedSimpArgs false
theorem piece_walk (W0:World) (B W H:Nat) (A0:Option Addr) (c0:Nat) (l:List S76) (A1:Option Addr) (c1:Nat) (P:List S34) (hP:P.length≤8192) (hl:l.length≤16) (hr:∀ w,Below B W0 w→Kd.C k34 w A1 P.length P) (hrb:∀ w,Below B W0 w→Kd.C k76 w A0 l.length l)
  (k:Nat):∀ (x y i:Nat) (s ar:Int) (i' : Nat) (s' ar' : Int),x<1000→y<1000→readF l P k x y i s ar=some (i',s',ar')→PieceSaid W0 B W H (.slice A0 l.length c0) (.slice A1 P.length c1) x y i s ar i' s' ar':=by
 induction k with
 | zero=>intro x y i s ar i' s' ar' _ _ h;exact absurd h (by simp [readF])
 | succ k ih =>
  intro x y i s ar i' s' ar' hx hy h
  unfold readF at h
  by_cases hi:i<P.length
  ·rw [if_pos hi] at h
   dsimp only at h
   by_cases h0:(rd_T34 P (i:Int)).f0=0
   ·rw [if_pos h0] at h
    by_cases h1:(rd_T34 P (i:Int)).f1=0
    ·rw [if_pos h1] at h
     cases h
     exact piece_waste W0 B W H A0 c0 l A1 c1 P hP hl hr hrb x y i s ar hi h0 h1
    ·rw [if_neg h1] at h;exact absurd h (by simp)
   ·rw [if_neg h0] at h
    by_cases h2:(rd_T34 P (i:Int)).f0=1
    ·rw [if_pos h2] at h
     by_cases h1:0≤(rd_T34 P (i:Int)).f1∧(rd_T34 P (i:Int)).f1<(l.length:Int)
     ·rw [if_pos h1] at h
      obtain ⟨j,hj⟩:=Int.eq_ofNat_of_zero_le h1.1
      rw [hj] at h h1
      by_cases hb:(rd_T76 l (j:Int)).f0≤(x:Int)∧(rd_T76 l (j:Int)).f1≤(y:Int)
      ·rw [if_pos hb] at h
       cases h
       exact piece_make W0 B W H A0 c0 l A1 c1 P hP hl hr hrb x y i s ar j hi (by omega) h2 hj hb
      ·rw [if_neg hb] at h;exact absurd h (by simp)
     ·rw [if_neg h1] at h;exact absurd h (by simp)
    ·rw [if_neg h2] at h
     by_cases h3:(rd_T34 P (i:Int)).f0=2
     ·rw [if_pos h3] at h
      by_cases h1:1≤(rd_T34 P (i:Int)).f1∧(rd_T34 P (i:Int)).f1<(x:Int)
      ·rw [if_pos h1] at h
       obtain ⟨⟨i1,s1,ar1⟩,hp,h⟩:=Option.bind_eq_some_iff.mp h
       obtain ⟨a,ha⟩:=Int.eq_ofNat_of_zero_le (show 0≤(rd_T34 P (i:Int)).f1 by omega)
       rw [ha,Int.toNat_natCast] at hp h
       rw [ha] at h1
       exact piece_across W0 B W H A0 c0 l A1 c1 P hP hl hr hrb x y i s ar a i1 s1 ar1 i' s' ar' hi (by omega) (by omega) hx h3 ha (ih a y (i+1) s ar i1 s1 ar1 (by omega) hy hp) (ih (x-a) y i1 s1 ar1 i' s' ar' (by omega) hy h)
      ·rw [if_neg h1] at h;exact absurd h (by simp)
     ·rw [if_neg h3] at h
      by_cases h4:(rd_T34 P (i:Int)).f0=3
      ·rw [if_pos h4] at h
       by_cases h1:1≤(rd_T34 P (i:Int)).f1∧(rd_T34 P (i:Int)).f1<(y:Int)
       ·rw [if_pos h1] at h
        obtain ⟨⟨i1,s1,ar1⟩,hp,h⟩:=Option.bind_eq_some_iff.mp h
        obtain ⟨a,ha⟩:=Int.eq_ofNat_of_zero_le (show 0≤(rd_T34 P (i:Int)).f1 by omega)
        rw [ha,Int.toNat_natCast] at hp h
        rw [ha] at h1
        exact piece_along W0 B W H A0 c0 l A1 c1 P hP hl hr hrb x y i s ar a i1 s1 ar1 i' s' ar' hi (by omega) (by omega) hy h4 ha (ih x a (i+1) s ar i1 s1 ar1 hx (by omega) hp) (ih x (y-a) i1 s1 ar1 i' s' ar' hx (by omega) h)
       ·rw [if_neg h1] at h;exact absurd h (by simp)
      ·rw [if_neg h4] at h;exact absurd h (by simp)
  ·rw [if_neg hi] at h;exact absurd h (by simp)
def rdWorld (w:World) (W H:Nat) (bl pl:Value):World:=(((((w.alloc (.cells #[.int .i64 W,.int .i64 H,bl] 78)).alloc (.cells #[pl] 27)).alloc (.cells #[.int .i64 0,.int .i64 0] 98)).alloc (.cells #[.int .i64 0,.int .i64 0] 98)).alloc (.cells #[.int .i64 0] 3)).alloc (.cells #[pieceV w.heap.size] 143)
theorem RdAt.start (w:World) (W H:Nat) (bl pl:Value):RdAt w.heap.size W H bl pl 0 0 0 (rdWorld w W H bl pl):=by
 unfold rdWorld
 refine ⟨?_,?_,?_,?_,?_,?_⟩
 ·exact blk_alloc (blk_alloc (blk_alloc (blk_alloc (blk_alloc (heap_new _ _ _ rfl) _) _) _) _) _
 ·exact blk_alloc (blk_alloc (blk_alloc (blk_alloc (heap_new _ _ _ (by simp)) _) _) _) _
 ·exact blk_alloc (blk_alloc (blk_alloc (heap_new _ _ _ (by simp)) _) _) _
 ·exact blk_alloc (blk_alloc (heap_new _ _ _ (by simp)) _) _
 ·exact blk_alloc (heap_new _ _ _ (by simp)) _
 ·exact heap_new _ _ _ (by simp)
theorem rdWorld_below (w:World) (W H:Nat) (bl pl:Value):Below w.heap.size w (rdWorld w W H bl pl):=by
 unfold rdWorld
 repeat (first|exact Below.refl _ _|refine below_alloc ?_ _)
set_option maxHeartbeats 8000000 in
set_option maxRecDepth 100000 in
theorem read_walk (k W H:Nat) (A0:Option Addr) (c0:Nat) (l:List S76) (A1:Option Addr) (c1:Nat) (P:List S34) (s ar:Int) (w:World) (hW:W<49) (hH:H<49) (hP:P.length≤8192) (hl:l.length≤16) (hr:Kd.C k34 w A1 P.length P) (hrb:Kd.C k76 w A0 l.length l) (h:readF l P k W H 0 0 0=some (P.length,s,ar)) :
  Calls Tryz.prog 62 #[.agg #[.int .i64 W,.int .i64 H,.slice A0 l.length c0],.slice A1 P.length c1] w fun e w'=>e=.returned (.tuple #[.agg #[.int .i64 s,.int .i64 ar],.bool true])∧Below w.heap.size w w':=by
 have HS:=piece_walk w w.heap.size W H A0 c0 l A1 c1 P hP hl (fun w' hb=>Kd.C_below hr hb) (fun w' hb=>Kd.C_below hrb hb) k W H 0 0 0 P.length s ar (by omega) (by omega) h
 have d1:decide ((P.length:Int)≤8192)=true:=decide_eq_true (by omega)
 have HPS:=hid HS
 clear HS h hr hrb
 go_enter Tryz.func62,Tryz.ntmps62
 go_wp2_with (fail)
 refine (HPS.out (rdWorld w W H (.slice A0 l.length c0) (.slice A1 P.length c1)) (rdWorld_below _ _ _ _ _) (RdAt.start _ _ _ _ _)).mono ?_
 rintro e w1 ⟨rfl,hS,hK⟩
 have HB1:=Aside0.mk ((rdWorld_below w W H (.slice A0 l.length c0) (.slice A1 P.length c1)).trans hK.bel)
 have c1_:w1.cell? ⟨w.heap.size+1,0,none⟩=some (.slice A1 P.length c1):=by simp [World.cell?,hS.p]
 have c4_:w1.cell? ⟨w.heap.size+1+1+1+1,0,none⟩=some (.int .i64 P.length):=by
  show w1.cell? ⟨w.heap.size+4,0,none⟩=_
  simp [World.cell?,hS.a]
 have c3_:w1.cell? ⟨w.heap.size+1+1+1,0,none⟩=some (.int .i64 s):=by
  show w1.cell? ⟨w.heap.size+3,0,none⟩=_
  simp [World.cell?,hS.s]
 have c3b_:w1.cell? ⟨w.heap.size+1+1+1,1,none⟩=some (.int .i64 ar):=by
  show w1.cell? ⟨w.heap.size+3,1,none⟩=_
  simp [World.cell?,hS.s]
 have c2_:w1.cell? ⟨w.heap.size+1+1,0,none⟩=some (.int .i64 0):=by
  show w1.cell? ⟨w.heap.size+2,0,none⟩=_
  simp [World.cell?,hS.r]
 have c2b_:w1.cell? ⟨w.heap.size+1+1,1,none⟩=some (.int .i64 0):=by
  show w1.cell? ⟨w.heap.size+2,1,none⟩=_
  simp [World.cell?,hS.r]
 have f2_:∀ j,w1.frozen? ⟨w.heap.size+1+1,j,none⟩=false:=fun j=>by
  show w1.frozen? ⟨w.heap.size+2,j,none⟩=_
  simp [World.frozen?,hS.r]
 have HR2:=hid (show w1.heap[w.heap.size+1+1]?=some (.cells #[.int .i64 0,.int .i64 0] 98 (0,0)) from hS.r)
 clear hS hK
 go_wp2_with (fail)
 refine bodyPost_ret (results_ct rfl _ _ (w.heap.size+1+1) 98 #[.int .i64 s,.int .i64 ar] (0,0) _ rfl ?_ Tryz.underlying98 rfl (by kernel_rfl)) rfl ?_
 ·refine blk_put (cs:=#[.int .i64 s,.int .i64 0]) ?_ 1 _ rfl
  exact blk_put (cs:=#[.int .i64 0,.int .i64 0]) HR2.out 0 _ rfl
 ·exact ⟨rfl,Below.setCell (p:=⟨w.heap.size+1+1,1,none⟩) (Below.setCell (p:=⟨w.heap.size+1+1,0,none⟩) HB1.out (by show w.heap.size≤w.heap.size+1+1;omega) _) (by show w.heap.size≤w.heap.size+1+1;omega) _⟩
set_option maxHeartbeats 8000000 in
set_option maxRecDepth 100000 in
theorem made_walk (k W H:Nat) (A0:Option Addr) (c0:Nat) (l:List S76) (A1:Option Addr) (c1:Nat) (P:List S34) (s ar:Int) (w:World) (hW0:1≤W) (hW:W<49) (hH0:1≤H) (hH:H<49) (hP:P.length≤8192) (hl:l.length≤16) (hr:Kd.C k34 w A1 P.length P) (hrb:Kd.C k76 w A0 l.length l) (hv:∀ x,x ∈ l→blankOk x=true) (h:readF l P k W H 0 0 0=some (P.length,s,ar)) :
  Calls Tryz.prog 29 #[.int .i64 W,.int .i64 H,.slice A0 l.length c0,.slice A1 P.length c1] w fun e w'=>e=.returned (.tuple #[.agg #[.int .i64 s,.int .i64 ar],.int .i64 0])∧Below w.heap.size w w':=by
 have HR:=Aside0.mk hr
 have HRB:=Aside0.mk hrb
 have HV:=hid hv
 have HRF:=hid h
 clear hr hrb hv h
 go_enter Tryz.func29,Tryz.ntmps29
 go_wp2_with (fail)
 refine (newTask_walk W H A0 c0 l _ hW0 hW hH0 hH hl (Kd.C_below HRB.out (below_alloc (Below.refl _ _) _)) HV.out).mono ?_
 rintro e w1 ⟨rfl,hB⟩
 have HB1:Aside0 (Below w.heap.size w w1):=⟨(below_alloc (Below.refl _ _) _).trans (hB.mono (by simp))⟩
 have hlt1:w.heap.size<w1.heap.size:=by have:=hB.size;simp at this;omega
 have HC1:=hid (show w1.heap[w.heap.size]?=some (.cells #[.int .i64 0,.int .i64 0] 98 (0,0)) from (hB.block _ (by simp)).trans (blk_new _ _))
 clear hB
 go_wp2_with (fail)
 refine (read_walk k W H A0 c0 l A1 c1 P s ar _ hW hH hP hl (Kd.C_below HR.out (HB1.out.trans (below_alloc (Below.refl _ _) _ |>.mono (Nat.le_of_lt hlt1)))) (Kd.C_below HRB.out (HB1.out.trans (below_alloc (Below.refl _ _) _ |>.mono (Nat.le_of_lt hlt1)))) HRF.out).mono ?_
 rintro e w2 ⟨rfl,hB⟩
 have HB2:Aside0 (Below w.heap.size w w2):=⟨(HB1.out.trans (below_alloc (Below.refl _ _) _ |>.mono (Nat.le_of_lt hlt1))).trans (hB.mono (by simp;omega))⟩
 have hlt2:w.heap.size<w2.heap.size:=by have:=hB.size;simp at this;omega
 have HC2:=hid (show w2.heap[w.heap.size]?=some (.cells #[.int .i64 0,.int .i64 0] 98 (0,0)) from (hB.block _ (by simp;omega)).trans (blk_alloc HC1.out _))
 have q0:w2.cell? ⟨w.heap.size,0,none⟩=some (.int .i64 0):=by simp [World.cell?,HC2.out]
 have q1:w2.cell? ⟨w.heap.size,1,none⟩=some (.int .i64 0):=by simp [World.cell?,HC2.out]
 have r0:∀ j,w2.frozen? ⟨w.heap.size,j,none⟩=false:=fun j=>by simp [World.frozen?,HC2.out]
 clear hB hlt1
 go_wp2_with (fail)
 refine bodyPost_ret (results_ct rfl _ _ w.heap.size 98 #[.int .i64 s,.int .i64 ar] (0,0) _ rfl ?_ Tryz.underlying98 rfl (by kernel_rfl)) rfl ?_
 ·exact blk_alloc (blk_put (cs:=#[.int .i64 s,.int .i64 0]) (blk_put (cs:=#[.int .i64 0,.int .i64 0]) HC2.out 0 _ rfl) 1 _ rfl) _
 ·exact ⟨rfl,below_alloc (Below.setCell (p:=⟨w.heap.size,1,none⟩) (Below.setCell (p:=⟨w.heap.size,0,none⟩) HB2.out (Nat.le_refl _) _) (Nat.le_refl _) _) _⟩
set_option maxHeartbeats 8000000 in
set_option maxRecDepth 100000 in
theorem Worth_walk (k W H:Nat) (A0:Option Addr) (c0:Nat) (l:List S76) (A1:Option Addr) (c1:Nat) (P:List S34) (s ar:Int) (w:World) (hW0:1≤W) (hW:W<49) (hH0:1≤H) (hH:H<49) (hP:P.length≤8192) (hl:l.length≤16) (hr:Kd.C k34 w A1 P.length P) (hrb:Kd.C k76 w A0 l.length l) (hv:∀ x,x ∈ l→blankOk x=true) (h:readF l P k W H 0 0 0=some (P.length,s,ar)) :
  Calls Tryz.prog 11 #[.int .i64 W,.int .i64 H,.slice A0 l.length c0,.slice A1 P.length c1] w fun e w'=>e=.returned (.tuple #[.int .i64 s,.int .i64 0])∧Below w.heap.size w w':=by
 have HM:=hid (made_walk k W H A0 c0 l A1 c1 P s ar w hW0 hW hH0 hH hP hl hr hrb hv h)
 clear hr hrb hv h
 go_enter Tryz.func11,Tryz.ntmps11
 go_wp2_with (fail)
 refine HM.out.mono ?_
 rintro e w1 ⟨rfl,hB⟩
 have HB1:=Aside0.mk hB
 clear hB
 go_wp2_with (fail)
 go_ret2
 exact ⟨rfl,below_alloc HB1.out _⟩
end Go.Proofs.YtiioklboaookiaaGreatDoor.Q
namespace Go.Proofs.YtiioklboaookiaaGreatDoor.Q
open Go.RowKit Go.Proofs.YtiioklboaookiaaGreatDoorW.PrintWords Go.Proofs.YtiioklboaookiaaGreatDoorW.PrintLast Go.Proofs.YtiioklboaookiaaGreatDoor.Hand Go.Proofs.YtiioklboaookiaaGreatDoorW.PrintMore
attribute [local go_sem] max2_int min2_int max_two min_two max_three min_three max_four min_four
set_option linter.unusedVariables false
set_option linter.unusedSimpArgs false
theorem flat_drop {α:Type} (enc:α→List Value) (s:Nat) (hs:∀ x,(enc x).length=s):∀ (xs:List α) (j:Nat) (p:α),xs[j]?=some p→((xs.flatMap enc).drop (j*s)).take s=enc p
 | [],j,p,h=>by simp at h
 | a::xs,0,p,h=>by
  have e:a=p:=by simpa using h
  subst e
  rw [Nat.zero_mul,List.drop_zero,List.flatMap_cons,List.take_left' (hs a)]
 | a::xs,j+1,p,h=>by
  have h' : xs[j]?=some p:=by simpa using h
  have e:(j+1)*s=(enc a).length+j*s:=by rw [hs,Nat.succ_mul,Nat.add_comm]
  rw [List.flatMap_cons,e,← List.drop_drop,List.drop_left']
  ·exact flat_drop enc s hs xs j p h'
  ·rfl
theorem flat_len {α:Type} (enc:α→List Value) (s:Nat) (hs:∀ x,(enc x).length=s):∀ (xs:List α),(xs.flatMap enc).length=xs.length*s
 | []=>by simp
 | a::xs=>by rw [List.flatMap_cons,List.length_append,flat_len enc s hs xs,hs,List.length_cons,Nat.succ_mul,Nat.add_comm]
theorem R_fresh {α:Type} (d:Kd α) (enc:α→List Value) (hs:∀ x,(enc x).length=d.sz) (hM:∀ w base ok x,d.M w base ok x (enc x)) (e:Nat) (W:World) (base:Nat) (hb:base≤W.heap.size) (xs:List α) (hl:xs.length≤1000) :
  Kd.R d e (W.alloc (.cells (xs.flatMap enc).toArray e)) base (fun _=>True) (.slice (some ⟨W.heap.size,0,none⟩) xs.length xs.length) xs:=by
 have hlen:=flat_len enc d.sz hs xs
 refine ⟨fun _ _=>trivial,xs.flatMap enc,⟨hlen,.inr ⟨W.heap.size,xs.length,_,rfl,hb,blk_new _ _,Nat.le_refl _,by unfold maxLen;omega,by simpa using hlen,?_⟩⟩,hlen,fun j p hp=>?_⟩
 ·rw [← hlen];exact List.take_of_length_le (Nat.le_refl _)
 ·rw [flat_drop enc d.sz hs xs j p hp];exact hM _ _ _ p
def encPt (x:S159):List Value:=[.int .i64 x.f0,.int .i64 x.f1]
def encStep (x:S34):List Value:=[.int .i64 x.f0,.int .i64 x.f1]
def encJob (x:S76):List Value:=[.int .i64 x.f0,.int .i64 x.f1,.int .i64 x.f2]
def ptOk (p:S159):Bool:=decide (-4096≤p.f0∧p.f0≤4096∧-4096≤p.f1∧p.f1≤4096)
theorem invalid_no (p:S159) (h:ptOk p=true):plane_invalid.f p.f0 p.f1=some false:=by
 obtain ⟨h1,h2,h3,h4⟩:=of_decide_eq_true h
 unfold plane_invalid.f plane_valid.f plane_within.f
 rw [if_pos (show p.f0 ≥ -4096 by omega),if_pos (show p.f1 ≥ -4096 by omega)]
 simp [h2,h4]
theorem pt_mem {l:List S159} (k:Nat) (h:k<l.length):rd_T159 l (k:Int) ∈ l:=by
 unfold rd_T159;rw [Int.toNat_natCast,List.getD_eq_getElem?_getD,List.getElem?_eq_getElem h];exact List.getElem_mem h
set_option maxHeartbeats 4000000 in
set_option maxRecDepth 100000 in
theorem pindex_no (A0:Option Addr) (c0:Nat) (l:List S159) (w:World) (hl:l.length≤512) (hr:Kd.C k159 w A0 l.length l) (hv:∀ x,x ∈ l→ptOk x=true) :
  Calls Tryz.prog 126 #[.slice A0 l.length c0,.func (.func 96) #[] #[]] w fun e w'=>e=.returned (.int .i64 (-1))∧Below w.heap.size w w':=by
 have HR:=Aside0.mk hr
 have HV:=hid hv
 clear hr hv
 go_enter Tryz.func126,Tryz.ntmps126
 go_wp2_with (fail)
 go_loopg [8] l.length (fun kq v8 w'=>∃ (k:Nat),v8=.int .i64 k∧k+kq=l.length∧Aside0 (Below w.heap.size w w'))
 case atStart=>exact ⟨0,rfl,by omega,⟨Below.refl _ _⟩⟩
 case round =>
  obtain ⟨k,rfl,hk,HB⟩:=hrel
  by_cases hlt:k<l.length
  ·have d2:decide ((k:Int)<(l.length:Int))=true:=decide_eq_true (by omega)
   obtain ⟨ad,e0,hx0,hx1⟩:=at_T159 HR.out (k:Int) (by omega) (by omega)
   rw [Int.toNat_natCast] at hx0 hx1
   replace hx0:=(HB.out.cell (World.block_lt_of_cell? w _ hx0)).trans hx0
   replace hx1:=(HB.out.cell (World.block_lt_of_cell? w _ hx1)).trans hx1
   cases e0
   have hlt' : (k:Int)<(l.length:Int):=by omega
   have k0:(0:Int)≤(k:Int):=by omega
   have HJ:=hid (HV.out _ (pt_mem k hlt))
   have HLT:=hid hlt
   obtain ⟨bl,hbl⟩:∃ bl,bl=rd_T159 l (k:Int):=⟨_,rfl⟩
   rw [← hbl] at hx0 hx1 HJ
   clear hbl hlt
   go_wp2_with (fail)
   refine (plane_invalid.calls bl.f0 bl.f1 false _ (invalid_no bl HJ.out)).mono ?_
   rintro e w1 ⟨rfl,hb⟩
   have HB2:Aside0 (Below w.heap.size w w1):=⟨HB.out.trans (hb.mono HB.out.size)⟩
   clear hb HB hx0 hx1
   go_wp2_with (fail)
   go_roundg (l.length-(k+1))
   case rel=>exact ⟨k+1,by go_num,by have:=HLT.out;omega,HB2⟩
   case measure=>have:=HLT.out;omega
  ·have d2:decide ((k:Int)<(l.length:Int))=false:=decide_eq_false (by omega)
   go_wp2_with (fail)
   go_ret
   exact ⟨rfl,HB.out⟩
set_option maxHeartbeats 4000000 in
set_option maxRecDepth 100000 in
theorem pcontains_no (A0:Option Addr) (c0:Nat) (l:List S159) (w:World) (hl:l.length≤512) (hr:Kd.C k159 w A0 l.length l) (hv:∀ x,x ∈ l→ptOk x=true) :
  Calls Tryz.prog 95 #[.slice A0 l.length c0,.func (.func 96) #[] #[]] w fun e w'=>e=.returned (.bool false)∧Below w.heap.size w w':=by
 have HR:=Aside0.mk hr
 have HV:=hid hv
 clear hr hv
 go_enter Tryz.func95,Tryz.ntmps95
 go_wp2_with (fail)
 refine (pindex_no A0 c0 l _ hl HR.out HV.out).mono ?_
 rintro e w1 ⟨rfl,hb⟩
 have HB:=Aside0.mk hb
 clear hb
 go_wp2_with (fail)
 go_ret
 exact ⟨rfl,HB.out⟩
set_option maxHeartbeats 4000000 in
set_option maxRecDepth 100000 in
theorem Area_walk (k:Nat) (A0:Option Addr) (c0:Nat) (l:List S159) (r:Int) (w:World) (hl:l.length≤512) (hc0:l.length≤c0) (hr:Kd.C k159 w A0 l.length l) (hv:∀ x,x ∈ l→ptOk x=true) (h:plane_area.f k l=some r) :
  Calls Tryz.prog 63 #[.slice A0 l.length c0] w fun e w'=>e=.returned (.tuple #[.int .i64 r,.int .i64 0])∧Below w.heap.size w w':=by
 have HR:=Aside0.mk hr
 have HV:=hid hv
 have HF:=hid h
 have d1:decide ((512:Int)<(l.length:Int))=false:=decide_eq_false (by omega)
 clear hr hv h
 go_enter Tryz.func63,Tryz.ntmps63
 go_wp2_with (fail)
 refine (pcontains_no A0 c0 l _ hl HR.out HV.out).mono ?_
 rintro e w1 ⟨rfl,hb⟩
 have HB:=Aside0.mk hb
 have HR1:=Aside0.mk (Kd.C_below HR.out hb)
 clear hb
 go_wp2_with (fail)
 refine (plane_area.calls k A0 c0 l r _ HR1.out hc0 HF.out).mono ?_
 rintro e w2 ⟨rfl,hb⟩
 have HB2:=Aside0.mk (HB.out.trans (hb.mono HB.out.size))
 clear hb
 go_wp2_with (fail)
 go_ret2
 exact ⟨rfl,HB2.out⟩
end Go.Proofs.YtiioklboaookiaaGreatDoor.Q
namespace Go.Proofs.YtiioklboaookiaaGreatDoor.Q
open Go.RowKit Go.Proofs.YtiioklboaookiaaGreatDoorW.PrintWords Go.Proofs.YtiioklboaookiaaGreatDoorW.PrintLast Go.Proofs.YtiioklboaookiaaGreatDoor.Hand Go.Proofs.YtiioklboaookiaaGreatDoorW.PrintMore
attribute [local go_sem] max2_int min2_int max_two min_two max_three min_three max_four min_four
set_option linter.unusedVariables false
set_option linter.unusedSimpArgs false
theorem wrapJob_spec (k fr fi:Int) (hft:fr<fi) (f:Nat):∀ (w b a:Int),fr≤a→a<fi→0≤w→w.toNat≤f →
  (wrapJob k fr fi f w b a).2.1*(fi-fr)+((wrapJob k fr fi f w b a).2.2-fr)=b*(fi-fr)+(a-fr)+w∧fr≤(wrapJob k fr fi f w b a).2.2∧(wrapJob k fr fi f w b a).2.2<fi∧b≤(wrapJob k fr fi f w b a).2.1 ∧
   ((wrapJob k fr fi f w b a).1.length:Int)≤(wrapJob k fr fi f w b a).2.1-b+(if 0<w then 1 else 0):=by
 induction f with
 | zero =>
  intro w b a h1 h2 h3 h4
  have hw:w=0:=by omega
  subst hw
  unfold wrapJob
  refine ⟨by dsimp only;omega,h1,h2,Int.le_refl _,?_⟩
  simp
 | succ f ih =>
  intro w b a h1 h2 h3 h4
  unfold wrapJob
  by_cases hw:0<w
  ·rw [if_pos hw,if_pos hw]
   by_cases hc:fi-a<w
   ·rw [if_pos hc,show a+(fi-a)=fi by omega,if_pos rfl,if_pos rfl]
    obtain ⟨g1,g2,g3,g4,g5⟩:=ih (w-(fi-a)) (b+1) fr (Int.le_refl _) hft (by omega) (by omega)
    rw [if_pos (show 0<w-(fi-a) by omega)] at g5
    dsimp only
    generalize wrapJob k fr fi f (w-(fi-a)) (b+1) fr=r at g1 g2 g3 g4 g5 ⊢
    have e:(b+1)*(fi-fr)=b*(fi-fr)+(fi-fr):=by rw [Int.add_mul,Int.one_mul]
    rw [e] at g1
    refine ⟨by omega,g2,g3,by omega,?_⟩
    rw [List.length_cons];omega
   ·rw [if_neg hc]
    by_cases he:a+w=fi
    ·rw [if_pos he,if_pos he,show w-w=0 by omega]
     obtain ⟨g1,g2,g3,g4,g5⟩:=ih 0 (b+1) fr (Int.le_refl _) hft (by omega) (by omega)
     rw [if_neg (by omega)] at g5
     dsimp only
     generalize wrapJob k fr fi f 0 (b+1) fr=r at g1 g2 g3 g4 g5 ⊢
     have e:(b+1)*(fi-fr)=b*(fi-fr)+(fi-fr):=by rw [Int.add_mul,Int.one_mul]
     rw [e] at g1
     refine ⟨by omega,g2,g3,by omega,?_⟩
     rw [List.length_cons];omega
    ·rw [if_neg he,if_neg he,show w-w=0 by omega]
     obtain ⟨g1,g2,g3,g4,g5⟩:=ih 0 b (a+w) (by omega) (by omega) (by omega) (by omega)
     rw [if_neg (by omega)] at g5
     dsimp only
     generalize wrapJob k fr fi f 0 b (a+w)=r at g1 g2 g3 g4 g5 ⊢
     refine ⟨by omega,g2,g3,by omega,?_⟩
     rw [List.length_cons];omega
  ·rw [if_neg hw,if_neg hw]
   refine ⟨?_,h1,h2,Int.le_refl _,?_⟩
   ·show b*(fi-fr)+(a-fr)=_;omega
   ·simp
theorem wrapAll_len (fr fi:Int) (hft:fr<fi):∀ (ws:List Int) (k b a:Int),fr≤a→a<fi→(∀ x,x ∈ ws→0≤x) →
  ∃ bf:Int,bf*(fi-fr)≤b*(fi-fr)+(a-fr)+ws.sum∧b≤bf∧((wrapAll fr fi ws k b a).length:Int)≤ws.length+(bf-b)
 | [],k,b,a,h1,h2,_=>⟨b,by simp;omega,Int.le_refl _,by unfold wrapAll;simp⟩
 | w::ws,k,b,a,h1,h2,h3=>by
  obtain ⟨g1,g2,g3,g4,g5⟩:=wrapJob_spec k fr fi hft w.toNat w b a h1 h2 (h3 w List.mem_cons_self) (Nat.le_refl _)
  have g6:((wrapW k fr fi w b a).1.length:Int)≤(wrapW k fr fi w b a).2.1-b+1:=by
   have:(if 0<w then (1:Int) else 0)≤1:=by split <;> omega
   unfold wrapW;omega
  obtain ⟨bf,e1,e2,e3⟩:=wrapAll_len fr fi hft ws (k+1) (wrapW k fr fi w b a).2.1 (wrapW k fr fi w b a).2.2 g2 g3 (fun x hx=>h3 x (List.mem_cons_of_mem _ hx))
  refine ⟨bf,?_,?_,?_⟩
  ·rw [List.sum_cons]
   have g1' : (wrapW k fr fi w b a).2.1*(fi-fr)+((wrapW k fr fi w b a).2.2-fr)=b*(fi-fr)+(a-fr)+w:=g1
   omega
  ·have g4' : b≤(wrapW k fr fi w b a).2.1:=g4
   omega
  ·unfold wrapAll
   rw [List.length_append,List.length_cons]
   omega
theorem Cut.short {b:Nat} {d:Int} {l:List S76} {M:Nat→Nat→Int} {sum:Int} (h:Cut b l M sum) (hd:0<d) (hl:∀ j,j ∈ l→j.f0=0∧j.f1=d):(schedF M l.length (spansF l) (spansF l).length).length≤l.length+b:=by
 by_cases hne:l=[]
 ·subst hne
  have e:spansF ([]:List S76)=[]:=by
   unfold spansF timesF
   rw [show timesR ([]:List S76)=[] from rfl,List.mergeSort_nil];rfl
  rw [e];show ([]:List Slt).length≤_;simp
 ·have hs:=spans_window l d hne hl hd
  have hf:=h.flow
  rw [hs] at hf ⊢
  show ([]++wrapF M l.length [⟨0,d⟩] 0).length≤l.length+b
  rw [List.nil_append]
  unfold wrapF
  have e:rd_T34 [(⟨0,d⟩:S34)] ((0:Nat):Int)=⟨0,d⟩:=rfl
  rw [e]
  dsimp only
  have hws:∀ x,x ∈ worksF M l.length 0→0≤x:=fun x hx=>by
   unfold worksF at hx
   obtain ⟨k,hk,rfl⟩:=List.mem_map.1 hx
   exact hf.ge k 0 (List.mem_range.1 hk) (by simp)
  obtain ⟨bf,e1,e2,e3⟩:=wrapAll_len 0 d hd (worksF M l.length 0) 0 0 0 (Int.le_refl _) hd hws
  have hsum:(worksF M l.length 0).sum≤b*d:=by
   unfold worksF
   rw [sumN_range]
   obtain ⟨p1,p2⟩:=hf.part 0 (by simp)
   have hlen:lenF [(⟨0,d⟩:S34)] 0=d:=by show d-0=d;omega
   rw [hlen] at p2
   omega
  have hbf:bf≤b:=by
   have h1:bf*d≤b*d:=by
    rw [show d-0=d by omega] at e1
    omega
   exact Int.le_of_mul_le_mul_right h1 hd
  rw [worksF_length] at e3
  omega
end Go.Proofs.YtiioklboaookiaaGreatDoor.Q
namespace Go.Proofs.YtiioklboaookiaaGreatDoor.Q
open Go.RowKit Go.Proofs.YtiioklboaookiaaGreatDoorW.PrintWords Go.Proofs.YtiioklboaookiaaGreatDoorW.PrintLast Go.Proofs.YtiioklboaookiaaGreatDoor.Hand Go.Proofs.YtiioklboaookiaaGreatDoorW.PrintMore
attribute [local go_sem] max2_int min2_int max_two min_two max_three min_three max_four min_four
set_option linter.unusedVariables false
set_option linter.unusedSimpArgs false
theorem area4:plane_area.f 10 [(⟨0,0⟩:S159),⟨3,0⟩,⟨3,2⟩,⟨0,2⟩]=some 12:=by kernel_rfl
theorem rd_waste:readF [] [(⟨0,0⟩:S34)] 2 3 2 0 0 0=some (1,0,0):=by rfl
set_option maxHeartbeats 4000000 in
set_option maxRecDepth 100000 in
theorem two_walk (w:World):Calls Tryz.prog 30 #[] w fun e w'=>e=.returned (.bool true)∧Below w.heap.size w w':=by
 have HP:=Aside0.mk (show Kd.R k159 159 (w.alloc (.cells #[.int .i64 0,.int .i64 0,.int .i64 3,.int .i64 0,.int .i64 3,.int .i64 2,.int .i64 0,.int .i64 2] 159)) w.heap.size (fun _=>True) (.slice (some ⟨w.heap.size,0,none⟩) 4 4) [⟨0,0⟩,⟨3,0⟩,⟨3,2⟩,⟨0,2⟩] from
  R_fresh k159 encPt (fun _=>rfl) (fun w base ok x=>k159_mkM w base ok x) 159 w w.heap.size (Nat.le_refl _) [⟨0,0⟩,⟨3,0⟩,⟨3,2⟩,⟨0,2⟩] (by decide))
 have HA:=hid (Area_walk 10 (some ⟨w.heap.size,0,none⟩) 4 [⟨0,0⟩,⟨3,0⟩,⟨3,2⟩,⟨0,2⟩] 12 _ (by decide) (by decide) (Kd.R_reads' HP.out).2.2 (by decide) area4)
 have HB0:=Aside0.mk (below_alloc (Below.refl w.heap.size w) (.cells #[.int .i64 0,.int .i64 0,.int .i64 3,.int .i64 0,.int .i64 3,.int .i64 2,.int .i64 0,.int .i64 2] 159))
 clear HP
 go_enter Tryz.func30,Tryz.ntmps30
 go_wp2_with (fail)
 refine HA.out.mono ?_
 rintro e w1 ⟨rfl,hb⟩
 have HB1:=Aside0.mk (HB0.out.trans (hb.mono HB0.out.size))
 clear hb HA HB0
 have HS:=Aside0.mk (show Kd.R k34 34 (w1.alloc (.cells #[.int .i64 0,.int .i64 0] 34)) w1.heap.size (fun _=>True) (.slice (some ⟨w1.heap.size,0,none⟩) 1 1) [⟨0,0⟩] from
  R_fresh k34 encStep (fun _=>rfl) (fun w base ok x=>k34_mkM w base ok x) 34 w1 w1.heap.size (Nat.le_refl _) [⟨0,0⟩] (by decide))
 have HW:=hid (Worth_walk 2 3 2 none 0 [] (some ⟨w1.heap.size,0,none⟩) 1 [⟨0,0⟩] 0 0 _ (by decide) (by decide) (by decide) (by decide) (by decide) (by decide) (Kd.R_reads' HS.out).2.2 (Kd.C_nil _ _) (by decide) rd_waste)
 have HB2:=Aside0.mk (below_alloc HB1.out (.cells #[.int .i64 0,.int .i64 0] 34))
 clear HS HB1
 go_wp2_with (fail)
 refine HW.out.mono ?_
 rintro e w2 ⟨rfl,hb⟩
 have HB3:=Aside0.mk (HB2.out.trans (hb.mono HB2.out.size))
 clear hb HW HB2
 go_wp2_with (fail)
 go_ret
 exact ⟨rfl,HB3.out⟩
theorem enc_a:label_Encode.f 10 ⟨#[97]⟩ 0=some (⟨#[97]⟩,0):=by kernel_rfl
set_option maxHeartbeats 4000000 in
set_option maxRecDepth 100000 in
theorem four_walk (w:World) (hz:NoneAt w):Calls Tryz.prog 12 #[] w fun e w'=>e=.returned (.bool true)∧Below w.heap.size w w':=by
 have HJ:=Aside0.mk (show Kd.R k76 46 (w.alloc (.cells #[.int .i64 0,.int .i64 2,.int .i64 2] 46)) w.heap.size (fun _=>True) (.slice (some ⟨w.heap.size,0,none⟩) 1 1) [⟨0,2,2⟩] from
  R_fresh k76 encJob (fun _=>rfl) (fun w base ok x=>k76_mkM w base ok x) 46 w w.heap.size (Nat.le_refl _) [⟨0,2,2⟩] (by decide))
 have hwin:∀ j,j ∈ [(⟨0,2,2⟩:S76)]→j.f0=0∧j.f1=2∧0≤j.f2:=fun j hj=>by rw [List.mem_singleton.1 hj];decide
 have HP:=hid (Plan_walk 1 (some ⟨w.heap.size,0,none⟩) 1 [⟨0,2,2⟩] (w.alloc (.cells #[.int .i64 0,.int .i64 2,.int .i64 2] 46)) (by decide) (by decide) (by decide) (Kd.R_reads' HJ.out).2.2 (fun x hx=>by rw [List.mem_singleton.1 hx];decide) (hz.below (below_alloc (Below.refl _ _) _))
  (fun M hM=>Nat.le_trans (hM.short (d:=2) (by decide) (fun j hj=>⟨(hwin j hj).1,(hwin j hj).2.1⟩)) (by decide)))
 have HB0:=Aside0.mk (below_alloc (Below.refl w.heap.size w) (.cells #[.int .i64 0,.int .i64 2,.int .i64 2] 46))
 have HWIN:=hid hwin
 clear hwin HJ hz
 go_enter Tryz.func12,Tryz.ntmps12
 go_wp2_with (fail)
 refine HP.out.mono ?_
 rintro e w1 ⟨p,AS,nS,cS,A2,n2,c2,A3,n3,c3,sum,M,rfl,hC,hp,_,hb⟩
 have hpt:p=true:=hp.2 ((hC.window (d:=2) (by decide) HWIN.out).2 ⟨fun j hj=>by rw [List.mem_singleton.1 hj];decide,by decide⟩)
 subst hpt
 have HB1:=Aside0.mk (HB0.out.trans (hb.mono HB0.out.size))
 clear hC hp hb HP HB0 HWIN
 go_wp2_with (fail)
 obtain ⟨W2,hW2⟩:∃ W2,W2=w1.alloc (.cells #[.bool true,.slice AS nS cS,.slice A2 n2 c2,.slice A3 n3 c3] 53):=⟨_,rfl⟩
 have HA2:=hid (show W2.heap[w1.heap.size]?=some (.cells #[.bool true,.slice AS nS cS,.slice A2 n2 c2,.slice A3 n3 c3] 53 (0,0)) by rw [hW2];exact blk_new _ _)
 have HB2:=Aside0.mk (show Below w.heap.size w W2 by rw [hW2];exact below_alloc HB1.out _)
 obtain ⟨ab,hab⟩:∃ ab,ab=w1.heap.size:=⟨_,rfl⟩
 rw [← hab] at HA2
 rw [← hW2,← hab]
 clear hW2 hab HB1
 refine (label_Encode.calls 10 ⟨#[97]⟩ 0 ⟨#[97]⟩ 0 W2 enc_a).mono ?_
 rintro e w3 ⟨rfl,hb⟩
 have HA3:=hid (show w3.heap[ab]?=some (.cells #[.bool true,.slice AS nS cS,.slice A2 n2 c2,.slice A3 n3 c3] 53 (0,0)) from (hb.block ab (lt_of_some HA2.out)).trans HA2.out)
 have HB3:=Aside0.mk (HB2.out.trans (hb.mono HB2.out.size))
 clear hb HA2 HB2
 have z0:w3.cell? ⟨ab,0,none⟩=some (.bool true):=by simp [World.cell?,HA3.out]
 go_wp2_with (fail)
 refine (two_walk _).mono ?_
 rintro e w4 ⟨rfl,hb⟩
 have HB4:=Aside0.mk (HB3.out.trans (hb.mono HB3.out.size))
 clear hb
 go_wp2_with (fail)
 go_ret
 exact ⟨rfl,HB4.out⟩
end Go.Proofs.YtiioklboaookiaaGreatDoor.Q
