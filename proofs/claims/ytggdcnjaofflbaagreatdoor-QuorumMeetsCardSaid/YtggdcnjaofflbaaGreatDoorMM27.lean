/- Walk of the law: QuorumMeets, from what Meet answers on. The conditions: what is known. -/
import Derived.Test.YtggdcnjaofflbaaGreatDoorMM26
namespace Go.Proofs.YtggdcnjaofflbaaGreatDoor
open Go.RowKit Go.BigFrame
theorem any_snocM {α:Type}{l:List α}{k:Nat}{x:α}(p:α→Bool)(h:l[k]?=some x):(l.take (k+1)).any p=((l.take k).any p || p x):=by
 rw[List.take_add_one,h,List.any_append]
 simp
def rtQM3 (c:Code):Code:=rtQ (rtQ (rtQ (rtQ (rtQ (rtQ (rtQ (rtQ (rtQ (rtQ (rtQ (rtQ (c))))))))))))
theorem tailQM3 {c L:Code}(h:∃ a0 a1 a2 a3 a4 a5 a6 a7 a8 a9 a10 a11:Code,Tryz.f10.body=some (a0.seq (a1.seq (a2.seq (a3.seq (a4.seq (a5.seq (a6.seq (a7.seq (a8.seq (a9.seq (a10.seq (a11.seq (c))))))))))))))(hL:Tryz.f10.body.map rtQM3=some L:=by rfl):c=L:=by
 obtain⟨a0,a1,a2,a3,a4,a5,a6,a7,a8,a9,a10,a11,e⟩:=h
 rw[e]at hL
 exact Option.some.inj hL
set_option maxHeartbeats 16000000 in
set_option maxRecDepth 100000 in
theorem meets_loops {w wb:World}(HBW:Hid (Below w.heap.size w wb))(HEB:Hid (QEnv wb))(bc m kc who kb ko pc:Nat)(pa:Option Addr)(vw va:Value)(WL A:List VoteP)(at1 value siz:Int)(root sl:ByteArray)(its:List ItemP)(iv:Value)(z2:PartP × Value)
  (hm:m=1∨m=4∨m=7) (hwm:who < m) (hsz:siz≤60) (hrt:root.size≤1000) (hil:its.length≤100) (hip:Hid (∀ y∈its,y.prf.length≤1000∧y.ent.size≤1000)) (ix1:I64 at1) (ix2:I64 value)
  (HK:Hid (SS wb (.slice (some ⟨kb,ko,none⟩) m kc) (madeQ m))) (HCB:Hid (∀ W,Below wb.heap.size wb W→W.cell? ⟨bc,0,none⟩=some (.slice (some ⟨kb,ko,none⟩) m kc)∧W.cell? ⟨kb,ko+who,none⟩=some (.string (keyQ who))))
  (HPS:Hid (PS wb (.slice pa 2 pc) [(⟨⟨(who:Int),siz,root,sl⟩,its⟩,iv),z2])) (HWS:Hid (VS wb vw WL)) (HAS:Hid (VS wb va A))
  (HF:Hid (∀ u∈WL,(A.any fun a=>decide (a=u))=genuineV (madeQ m) u)) (HW2:Hid (∀ a∈A,(WL.any fun u=>decide (a=u))=true)) (HNX:Hid (∀(k:Nat) (a c:VoteP),A[k]?=some a→A[k+1]?=some c→a≠c))
  (HGG:Hid (∀(x:ItemP) (xs:List ItemP),its=x::xs→∀(v:VoteP) (s:ByteArray),v∈meetV (madeQ m) [⟨⟨(who:Int),siz,root,sl⟩,⟨x.idx,s,x.prf⟩::xs⟩]→v ∉ WL→checkB (keyQ who) ⟨⟨(who:Int),siz,root,sl⟩,⟨x.idx,s,x.prf⟩::xs⟩=true∧verifyB root siz x.idx s x.prf=true∧verifyB root siz x.idx x.ent x.prf=true)) {u0 u1 u2 u3 u4 u7 u8 u9 u10 u11 u12 u13 u14 u17 u19 u21 u22 u23 u24 u25 u26 u27 u28 u30 u31 u32 u33 u34 u35 u36 u37 u38 u39 u40 u41 u42 u43 u44 u45 u46 u47 u48 u49 u50 u51 u52 u53 u54 u55 u56 u57 u58 u59 u60 u61 u62 u63 u64 u65 u66 u67 u68 u69 u70 u71 u72 u73 u74 u75 u76 u77 u78 u79 u80 u81 u82 u83 u84 u85 u86 u87 u88 u89 u90 u91 u92 u93 u94 u95 u96 u97 u98 u99 u100 u101 u102 u103 u104 u105 u106 u107 u108 u109 u110 u111 u112 u113 u114 u115 u116 u117 u118 u119 u120 u121 u122 u123 u124 u125 u126 u127 u128 u129 u130 u131 u132 u133 u134 u135 u136 u137 u138 u139 u140 u141 u142 u143 u144 u145 u146 u147 u148 u149 u150 u151 u152 u153 u154 u155 u156 u157 u158 u159 u160 u161 u162 u163 u164 u165 u166 u167 u168 u169 u170 u171 u172 u173 u174 u175 u176 u177 u178 u179 u180 u181 u182 u183 u184 u185 u186 u187 u188 u189 u190 u191 u192 u193 u194 u195 u196 u197 u198 u199 u200 u201 u202 u203 u204 u205 u206 u207 u208 u209 u210 u211 u212 u213 u214 u215 u216 u217 u218 u219 u220 u221 u222 u223 u224 u225 u226 u227 u228 u229 u230 u231 u232 u233 u234 u235 u236 u237 u238 u239 u240 u241 u242 u243 u244 u245 u246 u247 u248 u249 u250 u251 u252 u253 u254 u255 u256 u257 u258 u259 u260 u261 u262 u263 u264 u265 u266 u267 u268 u269 u270 u271 u272 u273 u274 u275 u276 u277 u278 u279 u280 u281 u282 u283 u284 u285 u286 u287 u288 u289 u290 u291 u292 u293 u294 u295 u296 u297 u298 u299 u300 u301 u302 u303 u304 u305 u306 u307 u308 u309 u310 u311 u312 u313 u314:Value} :
  ∃ c:Code,(∃ a0 a1 a2 a3 a4 a5 a6 a7 a8 a9 a10 a11:Code,Tryz.f10.body=some (a0.seq (a1.seq (a2.seq (a3.seq (a4.seq (a5.seq (a6.seq (a7.seq (a8.seq (a9.seq (a10.seq (a11.seq (c))))))))))))))∧c.wp Tryz.prog (bodyPost Tryz.prog Tryz.f10 fun e w'=>e=.returned (.bool true)∧Below w.heap.size w w') { tmps:=#[u0,u1,u2,u3,u4,.int .i64 at1,.int .i64 value,u7,u8,u9,u10,u11,u12,u13,u14,.bool true,.pointer (some ⟨bc,0,none⟩),u17,.slice pa 2 pc,u19,vw,u21,u22,u23,u24,u25,u26,u27,u28,va,u30,u31,u32,u33,u34,u35,u36,u37,u38,u39,u40,u41,u42,u43,u44,u45,u46,u47,u48,u49,u50,u51,u52,u53,u54,u55,u56,u57,u58,u59,u60,u61,u62,u63,u64,u65,u66,u67,u68,u69,u70,u71,u72,u73,u74,u75,u76,u77,u78,u79,u80,u81,u82,u83,u84,u85,u86,u87,u88,u89,u90,u91,u92,u93,u94,u95,u96,u97,u98,u99,u100,u101,u102,u103,u104,u105,u106,u107,u108,u109,u110,u111,u112,u113,u114,u115,u116,u117,u118,u119,u120,u121,u122,u123,u124,u125,u126,u127,u128,u129,u130,u131,u132,u133,u134,u135,u136,u137,u138,u139,u140,u141,u142,u143,u144,u145,u146,u147,u148,u149,u150,u151,u152,u153,u154,u155,u156,u157,u158,u159,u160,u161,u162,u163,u164,u165,u166,u167,u168,u169,u170,u171,u172,u173,u174,u175,u176,u177,u178,u179,u180,u181,u182,u183,u184,u185,u186,u187,u188,u189,u190,u191,u192,u193,u194,u195,u196,u197,u198,u199,u200,u201,u202,u203,u204,u205,u206,u207,u208,u209,u210,u211,u212,u213,u214,u215,u216,u217,u218,u219,u220,u221,u222,u223,u224,u225,u226,u227,u228,u229,u230,u231,u232,u233,u234,u235,u236,u237,u238,u239,u240,u241,u242,u243,u244,u245,u246,u247,u248,u249,u250,u251,u252,u253,u254,u255,u256,u257,u258,u259,u260,u261,u262,u263,u264,u265,u266,u267,u268,u269,u270,u271,u272,u273,u274,u275,u276,u277,u278,u279,u280,u281,u282,u283,u284,u285,u286,u287,u288,u289,u290,u291,u292,u293,u294,u295,u296,u297,u298,u299,u300,u301,u302,u303,u304,u305,u306,u307,u308,u309,u310,u311,u312,u313,u314],defers:=[] } wb:=by
 refine⟨_,⟨_,_,_,_,_,_,_,_,_,_,_,_,rfl⟩,?_⟩
 obtain⟨wa,wcap,hwe,hwl,hwm3,hw3⟩:=HWS.out.opened
 subst hwe
 obtain⟨aa,acap,hae,hal,ham,ha3⟩:=HAS.out.opened
 subst hae
 have HW3:=zh hw3
 have HA3:=zh ha3
 obtain⟨NW,hNW⟩:∃ N,N=WL.length:=⟨_,rfl⟩
 obtain⟨NA,hNA⟩:∃ N,N=A.length:=⟨_,rfl⟩
 rw[← hNW]at hwl HWS ⊢
 rw[← hNA]at hal HAS ⊢
 have HNW:=zh hNW
 have HNA:=zh hNA
 have hNW9:NW≤9223372036854775807:=by unfold maxLen at hwm3;omega
 have hNA9:NA≤9223372036854775807:=by unfold maxLen at ham;omega
 clear hw3 hNW hwm3 ha3 hNA ham hwl hal
 have HCC:=zh (fun W (hW:Below wb.heap.size wb W)=>(HCB.out W hW).1)
 go_upto_block 4 with fail
 go_cut [31] (fun i wx=>∃ k:Nat,i=.int .i64 k∧Hid (Below wb.heap.size wb wx))
 case first =>
  go_wp2
  go_loopw [31] (fun i wr=>∃ k:Nat,k≤NW∧i=.int .i64 k∧Hid (Below wb.heap.size wb wr)) (fun i _=>NW - (intOf i).toNat)
  case atStart=>exact⟨0,by omega,rfl,zh br0⟩
  case round =>
   obtain⟨k,hk,rfl,hB⟩:=hrel
   by_cases hlt:k < NW
   ·have tk:(k:Int) < (NW:Int):=by omega
    have tk0:(0:Int)≤(k:Int):=by omega
    obtain⟨u,eu⟩:∃ u,WL[k]?=some u:=⟨_,List.getElem?_eq_getElem (by rw[← HNW.out];exact hlt)⟩
    obtain⟨ub,uo,rfl,hub,hua⟩:=HW3.out k u eu
    have HFU:=zh (HF.out u (List.mem_of_getElem? eu))
    have HGN:=zh (qgen_w HEB.out HK.out u _ rfl)
    obtain⟨gu,hgu⟩:∃ g,g=genuineV (madeQ m) u:=⟨_,rfl⟩
    rw[← hgu]at HFU HGN
    have HSN:=zh (fun j a (h:A[j]?=some a)=>any_snocM (fun a=>decide (a=u)) h)
    have HA0:Hid (false=(A.take 0).any fun a=>decide (a=u)):=zh rfl
    have HUE:=zh (fun a W=>eqlVote a u W)
    obtain⟨ucar,unum,ustp,uv,ul⟩:=u
    simp only[vagg]at HGN HUE
    (try simp only at hua)
    have HUC:=zh (fun W (hW:Below wb.heap.size wb W)=>hua.keep hW hub)
    clear eu hua hgu
    go_upto_block 6 with fail
    go_cut [32] (fun f wx=>f=.bool gu∧Hid (Below wb.heap.size wb wx))
    case first =>
     go_wp2
     go_loopw [32,33] (fun f j wq=>∃(q:Nat) (fb:Bool),q≤NA∧j=.int .i64 q∧f=.bool fb∧Hid (fb=(A.take q).any fun a=>decide (a=⟨ucar,unum,ustp,uv,ul⟩))∧Hid (Below wb.heap.size wb wq)) (fun _ j _=>NA - (intOf j).toNat)
     case atStart=>exact⟨0,false,by omega,rfl,rfl,HA0,hB⟩
     case round =>
      clear hB HA0
      obtain⟨q,fb,hq,rfl,rfl,hFb,hB⟩:=hrel
      by_cases hltq:q < NA
      ·have tq:(q:Int) < (NA:Int):=by omega
       have tq0:(0:Int)≤(q:Int):=by omega
       obtain⟨a,ea⟩:∃ a,A[q]?=some a:=⟨_,List.getElem?_eq_getElem (by rw[← HNA.out];exact hltq)⟩
       obtain⟨ab,ao,rfl,hab,haa⟩:=HA3.out q a ea
       have HSQ:=zh (HSN.out q a ea)
       have HEL:=zh (HUE.out a)
       obtain⟨eq,heq⟩:∃ eq,eq=decide (a=⟨ucar,unum,ustp,uv,ul⟩):=⟨_,rfl⟩
       rw[← heq]at HSQ HEL
       obtain⟨acar,anum,astp,av,al⟩:=a
       simp only at HEL
       have HC:=zh (fun W (hW:Below wr.heap.size wr W)=>And.intro (haa.keep (q_next hB.out hW) hab) (HUC.out W (q_next hB.out hW)))
       (try simp only at HC)
       have hel:=HEL.out
       clear ea haa heq
       go_upto_region 37 with fail
       cases fb with
       | true =>
        refine wp_region_noPanic ?_
        refine wp_region_lexB [.q 0,.q 1,.q 2,.q 3,.q 4,.q 5,.q 6,.q 7,.q 8,.q 9,.q 10,.q 11,.q 12] (by kernel_rfl) (by kernel_rfl) (fun _ _ _ _ h=>h) ?_
        iterate 2(refine wpFl_qL (v:=?_) rfl (Or.inl ⟨by rfl,?_⟩) ?_;rotate_left;(focus(intro w' hSw;go_simp;(try with_reducible rfl);done));simp only[Act.put,zzA,zzB,zzC])
        iterate 9(refine wpFl_qL (v:=undef) rfl (Or.inr ⟨by rfl,rfl⟩) ?_;simp only[Act.put,zzA,zzB,zzC])
        iterate 2(refine wpFl_qL (v:=?_) rfl (Or.inl ⟨by rfl,?_⟩) ?_;rotate_left;(focus(intro w' hSw;go_simp;(try with_reducible rfl);done));simp only[Act.put,zzA,zzB,zzC])
        refine wpFl_nil ?_
        refine NoPanic.normal ?_
        go_wp2
        go_roundw
        case rel=>exact⟨q+1,true,by omega,by go_num,rfl,zh (by rw[HSQ.out,← hFb.out];rfl),zh (Below.drew hB.out)⟩
        case measure=>simp[intOf];omega
       | false =>
        refine wp_region_noPanic ?_
        refine wp_region_lexB [.q 0,.q 1,.q 2,.q 3,.q 4,.q 5,.q 6,.q 7,.q 8,.q 9,.q 10,.q 11,.q 12] (by kernel_rfl) (by kernel_rfl) (fun _ _ _ _ h=>h) ?_
        iterate 13(refine wpFl_qL (v:=?_) rfl (Or.inl ⟨by rfl,?_⟩) ?_;rotate_left;(focus(intro w' hSw;obtain⟨⟨e0,e1,e2,e3,e4⟩,v0,v1,v2,v3,v4⟩:=HC.out w' hSw;go_simp;(try with_reducible rfl);done));simp only[Act.put,zzA,zzB,zzC])
        refine wpFl_nil ?_
        refine NoPanic.normal ?_
        go_wp2
        go_roundw
        case rel=>exact⟨q+1,eq,by omega,by go_num,rfl,zh (by rw[HSQ.out,← hFb.out,Bool.false_or]),zh (Below.drew hB.out)⟩
        case measure=>simp[intOf];omega
      ·obtain rfl:q=NA:=by omega
       have tq:¬ (q:Int) < (q:Int):=by omega
       have hfb:fb=gu:=by rw[hFb.out,HNA.out,List.take_length,HFU.out]
       subst hfb
       go_wp2
       go_meet
       case rel=>exact⟨rfl,hB⟩
    case rest =>
    obtain⟨hf32,HB2⟩:=hcut
    subst hf32
    have HC:=zh (fun W (hW:Below wc.heap.size wc W)=>And.intro (HCC.out W (q_next HB2.out hW)) (HUC.out W (q_next HB2.out hW)))
    (try simp only at HC)
    have hgg:(gu != gu)=false:=by simp
    go_upto_region 38 with fail
    refine wp_region_noPanic ?_
    refine wp_region_lexB [.q 0,.q 1,.q 2,.q 3,.q 4,.q 5,.b 6,.q 7] (by kernel_rfl) (by kernel_rfl) (fun _ _ _ _ h=>h) ?_
    iterate 6(refine wpFl_qL (v:=?_) rfl (Or.inl ⟨by rfl,?_⟩) ?_;rotate_left;(focus(intro w' hSw;obtain⟨c0,v0,v1,v2,v3,v4⟩:=HC.out w' hSw;go_simp;(try with_reducible rfl);done));simp only[Act.put,zzA,zzB,zzC])
    refine wpFl_bL rfl (fun waa hnaa hsaa K hK=>?_)
    go_simp
    go_at_call 21
    (with_reducible refine(HGN.out _ (q_next HB2.out hsaa)).mono ?_)
    rintro e wba ⟨rfl,hba⟩
    have HBF:=zh (q_next HB2.out (q_next hsaa hba))
    refine hK.out _ _ (q_next hsaa hba) (Keeps.below hba) ?_
    clear hK K hnaa hsaa
    refine wpFl_qL (v:=?_) rfl (Or.inl ⟨by rfl,?_⟩) ?_
    rotate_left
    focus(intro w' hSw;go_simp;(try with_reducible rfl);done)
    simp only[Act.put,zzA,zzB,zzC]
    refine wpFl_nil ?_
    refine NoPanic.normal ?_
    go_wp2
    go_roundw
    case rel=>exact⟨k+1,by omega,by go_num,HBF⟩
    case measure=>simp[intOf];omega
   ·obtain rfl:k=NW:=by omega
    have tk:¬ (k:Int) < (k:Int):=by omega
    go_wp2
    go_meet
    case rel=>exact⟨k,rfl,hB⟩
 case rest =>
 obtain⟨k31,hk31,hB3⟩:=hcut
 subst hk31
 rename_i hKK
 refine hKK _ _ ?_
 go_upto_block 8 with fail
 go_cut [34] (fun i wx=>∃ k:Nat,i=.int .i64 k∧Hid (Below wb.heap.size wb wx))
 case first =>
  go_wp2
  go_loopw [34] (fun i wr=>∃ k:Nat,k≤NA∧i=.int .i64 k∧Hid (Below wb.heap.size wb wr)) (fun i _=>NA - (intOf i).toNat)
  case atStart=>exact⟨0,by omega,rfl,hB3⟩
  case round =>
   clear hB3
   obtain⟨k,hk,rfl,hB⟩:=hrel
   by_cases hlt:k < NA
   ·have tk:(k:Int) < (NA:Int):=by omega
    have tk0:(0:Int)≤(k:Int):=by omega
    obtain⟨u,eu⟩:∃ u,A[k]?=some u:=⟨_,List.getElem?_eq_getElem (by rw[← HNA.out];exact hlt)⟩
    obtain⟨ub,uo,hub0,hub,hua⟩:=HA3.out k u eu
    have hub1:=hub0
    subst hub1
    have HFU:=zh (HW2.out u (List.mem_of_getElem? eu))
    have HSN:=zh (fun j a (h:WL[j]?=some a)=>any_snocM (fun a=>decide (u=a)) h)
    have HA0:Hid (false=(WL.take 0).any fun a=>decide (u=a)):=zh rfl
    have HUE:=zh (fun a W=>eqlVote u a W)
    have HNK:=zh (fun j a (h:k=j+1) (ha:A[j]?=some a)=>HNX.out j a u ha (by rw[← h];exact eu))
    have HUE2:=zh (fun a W=>eqlVote a u W)
    obtain⟨ucar,unum,ustp,uv,ul⟩:=u
    simp only[vagg]at HUE HUE2
    (try simp only at hua)
    have HUC:=zh (fun W (hW:Below wb.heap.size wb W)=>hua.keep hW hub)
    clear eu hua
    go_upto_block 10 with fail
    go_cut [35] (fun f wx=>f=.bool true∧Hid (Below wb.heap.size wb wx))
    case first =>
     go_wp2
     go_loopw [35,36] (fun f j wq=>∃(q:Nat) (fb:Bool),q≤NW∧j=.int .i64 q∧f=.bool fb∧Hid (fb=(WL.take q).any fun a=>decide ((⟨ucar,unum,ustp,uv,ul⟩:VoteP)=a))∧Hid (Below wb.heap.size wb wq)) (fun _ j _=>NW - (intOf j).toNat)
     case atStart=>exact⟨0,false,by omega,rfl,rfl,HA0,hB⟩
     case round =>
      clear hB HA0
      obtain⟨q,fb,hq,rfl,rfl,hFb,hB⟩:=hrel
      by_cases hltq:q < NW
      ·have tq:(q:Int) < (NW:Int):=by omega
       have tq0:(0:Int)≤(q:Int):=by omega
       obtain⟨a,ea⟩:∃ a,WL[q]?=some a:=⟨_,List.getElem?_eq_getElem (by rw[← HNW.out];exact hltq)⟩
       obtain⟨ab,ao,rfl,hab,haa⟩:=HW3.out q a ea
       have HSQ:=zh (HSN.out q a ea)
       have HEL:=zh (HUE.out a)
       obtain⟨eq,heq⟩:∃ eq,eq=decide ((⟨ucar,unum,ustp,uv,ul⟩:VoteP)=a):=⟨_,rfl⟩
       rw[← heq]at HSQ HEL
       obtain⟨acar,anum,astp,av,al⟩:=a
       simp only at HEL
       have HC:=zh (fun W (hW:Below wr.heap.size wr W)=>And.intro (haa.keep (q_next hB.out hW) hab) (HUC.out W (q_next hB.out hW)))
       (try simp only at HC)
       have hel:=HEL.out
       clear ea haa heq
       go_upto_region 47 with fail
       cases fb with
       | true =>
        refine wp_region_noPanic ?_
        refine wp_region_lexB [.q 0,.q 1,.q 2,.q 3,.q 4,.q 5,.q 6,.q 7,.q 8,.q 9,.q 10,.q 11,.q 12] (by kernel_rfl) (by kernel_rfl) (fun _ _ _ _ h=>h) ?_
        iterate 2(refine wpFl_qL (v:=?_) rfl (Or.inl ⟨by rfl,?_⟩) ?_;rotate_left;(focus(intro w' hSw;go_simp;(try with_reducible rfl);done));simp only[Act.put,zzA,zzB,zzC])
        iterate 9(refine wpFl_qL (v:=undef) rfl (Or.inr ⟨by rfl,rfl⟩) ?_;simp only[Act.put,zzA,zzB,zzC])
        iterate 2(refine wpFl_qL (v:=?_) rfl (Or.inl ⟨by rfl,?_⟩) ?_;rotate_left;(focus(intro w' hSw;go_simp;(try with_reducible rfl);done));simp only[Act.put,zzA,zzB,zzC])
        refine wpFl_nil ?_
        refine NoPanic.normal ?_
        go_wp2
        go_roundw
        case rel=>exact⟨q+1,true,by omega,by go_num,rfl,zh (by rw[HSQ.out,← hFb.out];rfl),zh (Below.drew hB.out)⟩
        case measure=>simp[intOf];omega
       | false =>
        refine wp_region_noPanic ?_
        refine wp_region_lexB [.q 0,.q 1,.q 2,.q 3,.q 4,.q 5,.q 6,.q 7,.q 8,.q 9,.q 10,.q 11,.q 12] (by kernel_rfl) (by kernel_rfl) (fun _ _ _ _ h=>h) ?_
        iterate 13(refine wpFl_qL (v:=?_) rfl (Or.inl ⟨by rfl,?_⟩) ?_;rotate_left;(focus(intro w' hSw;obtain⟨⟨e0,e1,e2,e3,e4⟩,v0,v1,v2,v3,v4⟩:=HC.out w' hSw;go_simp;(try with_reducible rfl);done));simp only[Act.put,zzA,zzB,zzC])
        refine wpFl_nil ?_
        refine NoPanic.normal ?_
        go_wp2
        go_roundw
        case rel=>exact⟨q+1,eq,by omega,by go_num,rfl,zh (by rw[HSQ.out,← hFb.out,Bool.false_or]),zh (Below.drew hB.out)⟩
        case measure=>simp[intOf];omega
      ·obtain rfl:q=NW:=by omega
       have tq:¬ (q:Int) < (q:Int):=by omega
       have hfb:fb=true:=by rw[hFb.out,HNW.out,List.take_length,HFU.out]
       subst hfb
       go_wp2
       go_meet
       case rel=>exact⟨rfl,hB⟩
    case rest =>
    obtain⟨hf35,HB2⟩:=hcut
    subst hf35
    go_upto_region 48 with fail
    cases k with
    | zero =>
     refine wp_region_noPanic ?_
     refine wp_region_lexB [.q 0,.q 1,.q 2,.q 3,.q 4,.q 5,.q 6,.q 7,.q 8,.q 9,.q 10,.q 11,.q 12,.q 13,.q 14,.q 15,.q 16,.q 17,.q 18] (by kernel_rfl) (by kernel_rfl) (fun _ _ _ _ h=>h) ?_
     iterate 6(refine wpFl_qL (v:=?_) rfl (Or.inl ⟨by rfl,?_⟩) ?_;rotate_left;(focus(intro w' hSw;go_simp;(try with_reducible rfl);done));simp only[Act.put,zzA,zzB,zzC])
     iterate 11(refine wpFl_qL (v:=undef) rfl (Or.inr ⟨by rfl,rfl⟩) ?_;simp only[Act.put,zzA,zzB,zzC])
     iterate 2(refine wpFl_qL (v:=?_) rfl (Or.inl ⟨by rfl,?_⟩) ?_;rotate_left;(focus(intro w' hSw;go_simp;(try with_reducible rfl);done));simp only[Act.put,zzA,zzB,zzC])
     refine wpFl_nil ?_
     refine NoPanic.normal ?_
     go_wp2
     go_roundw
     case rel=>exact⟨1,by omega,by go_num,zh (Below.drew HB2.out)⟩
     case measure=>simp[intOf];omega
    | succ k =>
     obtain⟨s,es⟩:∃ s,A[k]?=some s:=⟨_,List.getElem?_eq_getElem (by rw[← HNA.out];omega)⟩
     obtain⟨sb,so,e2,hsb,hsa⟩:=HA3.out k s es
     obtain⟨rfl,rfl⟩:ub=sb∧uo=so:=by
      injection e2 with e
      injection e with e1 e2
      exact⟨e1,e2⟩
     have hne:=HNK.out k s rfl es
     have HEL:=zh (HUE2.out s)
     rw[decide_eq_false hne]at HEL
     have hel:=HEL.out
     obtain⟨scar,snum,sstp,sv,sl2⟩:=s
     simp only at hsa hel
     have HC:=zh (fun W (hW:Below wc.heap.size wc W)=>And.intro (hsa.keep (q_next HB2.out hW) hsb) (HUC.out W (q_next HB2.out hW)))
     (try simp only at HC)
     have tk':(k:Int)+1 < (NA:Int):=by omega
     have tk0':(0:Int)≤(k:Int)+1:=by omega
     have tk1':(0:Int) < (k:Int)+1:=by omega
     have tk2':(0:Int)≤(k:Int):=by omega
     have tk3':(k:Int) < (NA:Int):=by omega
     have hmx:max (IntKind.i64.wrap (k:Int)) 0=(k:Int):=by rw[IntWalk.i64_in _ (by omega)];omega
     clear es e2 hsa hne HEL
     refine wp_region_noPanic ?_
     refine wp_region_lexB [.q 0,.q 1,.q 2,.q 3,.q 4,.q 5,.q 6,.q 7,.q 8,.q 9,.q 10,.q 11,.q 12,.q 13,.q 14,.q 15,.q 16,.q 17,.q 18] (by kernel_rfl) (by kernel_rfl) (fun _ _ _ _ h=>h) ?_
     iterate 19(refine wpFl_qL (v:=?_) rfl (Or.inl ⟨by rfl,?_⟩) ?_;rotate_left;(focus(intro w' hSw;obtain⟨⟨e0,e1,e2,e3,e4⟩,v0,v1,v2,v3,v4⟩:=HC.out w' hSw;go_simp;(try with_reducible rfl);done));simp only[Act.put,zzA,zzB,zzC])
     refine wpFl_nil ?_
     refine NoPanic.normal ?_
     go_wp2
     go_roundw
     case rel=>exact⟨k+2,by omega,by go_num,zh (Below.drew HB2.out)⟩
     case measure=>simp[intOf];omega
   ·obtain rfl:k=NA:=by omega
    have tk:¬ (k:Int) < (k:Int):=by omega
    go_wp2
    go_meet
    case rel=>exact⟨k,rfl,hB⟩
 case rest =>
 obtain⟨k34,hk34,HBD⟩:=hcut
 rename_i hKK2
 have HBZ:=zh (HBW.out.trans (HBD.out.mono HBW.out.size))
 have HEZ:=zh (HEB.out.step HBD.out)
 have HKZ:=zh (HK.out.below HBD.out)
 have HCZ:=zh (fun W (hW:Below wc.heap.size wc W)=>HCB.out W (q_next HBD.out hW))
 have HPZ:=zh (HPS.out.below HBD.out)
 have HWZ:=zh (HWS.out.below HBD.out)
 refine hKK2 _ _ (wp_of_eqM (meets_bent HBZ HEZ bc m kc who kb ko pc pa (.slice wa NW wcap) WL at1 value siz root sl its iv z2 hm hwm hsz hrt hil hip ix1 ix2 HKZ HCZ HPZ HWZ HGG).choose_spec.2 ?_)
 exact tailQM2 (meets_bent HBZ HEZ bc m kc who kb ko pc pa (.slice wa NW wcap) WL at1 value siz root sl its iv z2 hm hwm hsz hrt hil hip ix1 ix2 HKZ HCZ HPZ HWZ HGG).choose_spec.1
theorem infoPartM:(Tryz.prog.info? 92).map (fun i=>(i.zero,i.size,i.bytes))=some (some partZ,5,72):=by kernel_rfl
theorem ptcells_fiveM (zs:List (PartP × Value)):∀ c∈ptcells zs,c.length=5:=by
 intro c hc
 unfold ptcells at hc
 obtain⟨z,_,rfl⟩:=List.mem_map.1 hc
 rfl
theorem ptcells_lenM (zs:List (PartP × Value)):(ptcells zs).length=zs.length:=List.length_map ..
theorem flat_lenM {size:Nat}:∀(css:List (List Value)),(∀ c∈css,c.length=size)→css.flatten.length=css.length*size:=by
 intro css
 induction css with
 | nil=>intro _;simp
 | cons d css ih =>
  intro h
  rw[List.flatten_cons,List.length_append,ih (fun c hc=>h c (List.mem_cons_of_mem _ hc)),h d (List.mem_cons_self ..),List.length_cons,Nat.succ_mul]
  omega
theorem flat_atM {size:Nat}:∀(css:List (List Value)),(∀ c∈css,c.length=size)→∀(j:Nat) (u:Value),css.flatten[j]?=some u→∃(i r:Nat) (c:List Value),css[i]?=some c∧c[r]?=some u∧j=i*size+r:=by
 intro css
 induction css with
 | nil=>intro _ j u h;simp at h
 | cons d css ih =>
  intro hs j u h
  have hd:d.length=size:=hs d (by simp)
  rw[List.flatten_cons]at h
  rcases Nat.lt_or_ge j d.length with h1 | h1
  ·rw[List.getElem?_append_left h1]at h
   exact⟨0,j,d,rfl,h,by omega⟩
  ·rw[List.getElem?_append_right h1]at h
   obtain⟨i,r,c,e1,e2,e3⟩:=ih (fun c hc=>hs c (by simp[hc])) _ u h
   exact⟨i+1,r,c,by simpa using e1,e2,by rw[Nat.succ_mul];omega⟩
theorem IT.oneCellM {w:World}{v:Value}{its:List ItemP}(h:IT w v its):v.oneCell'=true:=by
 obtain⟨a,n,c,rfl⟩:=h.form
 rfl
section
variable {ops:Array Oper} {rest:List Oper} {o:Oper} {a:Act} {w:World} {Q:Exit→Act→World→Prop} {K:Act→World→Prop} {E:Prop}
theorem wp_append_rowsM (st e:TypeId)(size bytes:Nat)(z:Value)(ht:Tryz.prog.underlying st=some (.slice e))(hinfo:(Tryz.prog.info? e).map (fun i=>(i.zero,i.size,i.bytes))=some (some z,size,bytes))(hzs:z.cells.size=size)(hsz:0 < size)(hby:bytes≤1000)
  (s x:Operand) (base:Nat) (v:Value) (css dss:List (List Value)) (vy:Value) (hown:OwnE w base e size v css) (hy:SliceAt w vy size dss) (hd:∀ c∈dss,c.length=size∧∀ u∈c,u.oneCell'=true) (hlen:css.length+dss.length≤1000000) (hbase:base≤w.heap.size)
  (ho:o.op=.call { callee:=.builtin .append,args:=#[s,x],argTypes:=#[st,st] }) (hs:a.eval s=v) (hx:a.eval x=vy)
  (h:∀ v' w',OwnE w' base e size v' (css++dss)→w.grownBy w' v.ownBlock→K (a.put o.dst v') w'):Oper.wp Tryz.prog o a w K Q:=by
 obtain⟨i,i1,i2,i3,i4⟩:=info_parts hinfo
 obtain⟨ad,cap,rfl,_,_,h3⟩:=hy
 rcases Nat.eq_zero_or_pos dss.length with h0 | h0
 ·have h1:dss=[]:=List.eq_nil_of_length_eq_zero h0
  subst h1
  exact wp_append_zero s x st e i ht i1 base size _ v _ hown ad cap ho hs hx (h v w (by rw[List.append_nil];exact hown) (grown_refl _ _))
 ·rcases h3 with h3 | ⟨b,off,rfl,hb,hc⟩
  ·exfalso
   rw[h3]at h0
   exact Nat.lt_irrefl 0 h0
  refine wp_append_own w s x st ho base e i _ size bytes ht i1 i2 i3 i4 hzs hsz v _ _ hs hown ⟨b,off,none⟩ dss.length cap dss.flatten hx ?_ ?_ ?_ (by unfold maxLen;omega) (by have h1:=Nat.mul_le_mul hlen hby;omega) hbase ?_
  ·exact flat_lenM dss (fun c hc=>(hd c hc).1)
  ·intro j u hj
   obtain⟨i,r,c,e1,e2,e3⟩:=flat_atM _ (fun c hc=>(hd c hc).1) j u hj
   have:=hc i c e1 r u e2
   rw[Addr.add_mid,e3,← Nat.add_assoc]
   exact this
  ·intro u hu
   obtain⟨c,hc1,hu⟩:=List.mem_flatten.1 hu
   exact(hd c hc1).2 u hu
  ·intro v' w' h1 h2 _
   refine h v' w' ?_ h2
   unfold OwnE
   rw[List.length_append,List.flatten_append]
   exact h1
theorem pt_one {w:World}{vy:Value}{ys:List (PartP × Value)}(hy:PS w vy ys):∀ c∈ptcells ys,c.length=5∧∀ u∈c,u.oneCell'=true:=fun c hc=>⟨ptcells_fiveM ys c hc,fun u hu=>by
 unfold ptcells at hc
 obtain⟨z,hz,rfl⟩:=List.mem_map.1 hc
 simp at hu
 rcases hu with rfl | rfl | rfl | rfl | rfl <;> first | rfl | exact IT.oneCellM (hy.2 z hz)⟩
theorem wp_append_partsM (s x:Operand)(base:Nat)(v:Value)(xs ys:List (PartP × Value))(vy:Value)(hown:OwnE w base 92 5 v (ptcells xs))(hy:PS w vy ys)(hlen:xs.length+ys.length≤1000000)(hbase:base≤w.heap.size)
  (ho:o.op=.call { callee:=.builtin .append,args:=#[s,x],argTypes:=#[82,82] }) (hs:a.eval s=v) (hx:a.eval x=vy)
  (h:∀ v' w',OwnE w' base 92 5 v' (ptcells (xs++ys))→w.grownBy w' v.ownBlock→K (a.put o.dst v') w'):Oper.wp Tryz.prog o a w K Q :=
 wp_append_rowsM 82 92 5 72 _ (by kernel_rfl) infoPartM rfl (by decide) (by decide) s x base v (ptcells xs) (ptcells ys) vy hown hy.1 (pt_one hy) (by rw[ptcells_lenM,ptcells_lenM];exact hlen) hbase ho hs hx (fun v' w' h1 h2=>h v' w' (by unfold ptcells;rw[List.map_append];exact h1) h2)
theorem wpList_append_partsM (hgd:o.guard=none)(s x:Operand)(base:Nat)(v:Value)(xs ys:List (PartP × Value))(vy:Value)(hown:OwnE w base 92 5 v (ptcells xs))(hy:PS w vy ys)(hlen:xs.length+ys.length≤1000000)(hbase:base≤w.heap.size)
  (ho:o.op=.call { callee:=.builtin .append,args:=#[s,x],argTypes:=#[82,82] }) (hs:a.eval s=v) (hx:a.eval x=vy)
  (h:∀ v' w',OwnE w' base 92 5 v' (ptcells (xs++ys))→w.grownBy w' v.ownBlock→wpList Tryz.prog ops Q rest (a.put o.dst v') w'):wpList Tryz.prog ops Q (o::rest) a w :=
 wpList_plain hgd fun _ hK=>wp_append_partsM s x base v xs ys vy hown hy hlen hbase ho hs hx fun v' w' h1 h2=>hK _ _ (h v' w' h1 h2)
theorem step_append_partsM (hgd:o.guard=none)(s x:Operand)(base:Nat)(v:Value)(xs ys:List (PartP × Value))(vy:Value)(hown:OwnE w base 92 5 v (ptcells xs))(hy:PS w vy ys)(hlen:xs.length+ys.length≤1000000)(hbase:base≤w.heap.size)
  (ho:o.op=.call { callee:=.builtin .append,args:=#[s,x],argTypes:=#[82,82] }) (hs:a.eval s=v) (hx:a.eval x=vy)
  (h:∀ v' w',OwnE w' base 92 5 v' (ptcells (xs++ys))→w.grownBy w' v.ownBlock→K (a.put o.dst v') w'):if Region.wanted o (yielded ops a.tmps)=true then Oper.wp Tryz.prog o a w K Q else E:=by
 have hw:Region.wanted o (yielded ops a.tmps)=true:=by simp[Region.wanted,hgd]
 rw[if_pos hw]
 exact wp_append_partsM s x base v xs ys vy hown hy hlen hbase ho hs hx h
theorem wpList_append_ints2 (hgd:o.guard=none)(s x:Operand)(base:Nat)(v:Value)(xs:List Int)(p q:Int)(b:Nat)(fr:Nat × Nat)(hown:OwnI w base v xs)(hlen:xs.length≤100000)(hbase:base≤w.heap.size)(hb:w.heap[b]?=some (.cells #[.int .i64 p,.int .i64 q] 3 fr))
  (ho:o.op=.call { callee:=.builtin .append,args:=#[s,x],argTypes:=#[83,83] }) (hs:a.eval s=v) (hx:a.eval x=.slice (some ⟨b,0,none⟩) 2 2)
  (h:∀ v' w',OwnI w' base v' (xs++[p,q])→w.grownBy w' v.ownBlock→wpList Tryz.prog ops Q rest (a.put o.dst v') w'):wpList Tryz.prog ops Q (o::rest) a w :=
 wpList_plain hgd fun _ hK=>wp_append_rowsM 83 3 1 8 _ (by kernel_rfl) infoInt rfl (by decide) (by decide) s x base v (icells xs) (icells [p,q]) _ hown (slice_lit (cs:=icells [p,q]) hb (fun c hc=>by simp[icells]at hc;rcases hc with rfl | rfl <;> rfl) rfl (by simp[icells])) (fun c hc=>by simp[icells]at hc;rcases hc with rfl | rfl <;> exact⟨rfl,fun u hu=>by simp at hu;subst hu;rfl⟩) (by unfold icells;rw[List.length_map];simp;omega) hbase ho hs hx (fun v' w' h1 h2=>hK _ _ (h v' w' (by unfold OwnI icells;rw[List.map_append];exact h1) h2))
end
theorem IT.ownM {W W':World}{base size:Nat}{T:TypeId}{v iv:Value}{css:List (List Value)}{its:List ItemP}(h:IT W iv its)(ho:OwnE W base T size v css)(h1:T≠98)(h2:T≠9)(hg:W.grownBy W' v.ownBlock):IT W' iv its:=by
 obtain⟨ys,hys,hi⟩:=h
 have n1:∀ U,T≠U→∀ k,v.ownBlock=some k→∀ cs fr,W.heap[k]?≠some (.cells cs U fr):=fun U hU k e cs fr hk=>by
  have:=own_ne ho hk (fun c e'=>by injection e' with _ e2 _;exact hU e2.symm)
  exact this e.symm
 obtain⟨a1,a2⟩:=SliceAt.grownT hi.is.1 hi.ty hg (n1 _ h1)
 have hp:=fun y hy=>SliceAt.grownT (hi.is.2 y hy) (hi.tp y hy) hg (n1 _ h2)
 exact⟨ys,hys,⟨a1,fun y hy=>(hp y hy).1⟩,a2,fun y hy=>(hp y hy).2⟩
structure MtAt (W0 W:World) (v:Value) (zs:List (PartP × Value)) (B:Nat) (u:Value) (ys:List (PartP × Value)) (t:Value) (wl:List VoteP):Prop where
 below:Below W0.heap.size W0 W
 own:OwnE W W0.heap.size 92 5 v (ptcells zs)
 its:∀ z∈zs,IT W z.2 z.1.items
 base:W0.heap.size≤B
 back:OwnE W B 92 5 u (ptcells ys)
 bits:∀ z∈ys,IT W z.2 z.1.items
 want:OwnV W W0.heap.size t wl
def Lt (v:Value)(B:Nat):Prop:=∀ g,v.ownBlock=some g→g < B
section
variable {W0 W W':World} {v v':Value} {zs zs':List (PartP × Value)} {B:Nat} {u u':Value} {ys ys':List (PartP × Value)} {t t':Value} {wl wl':List VoteP}
theorem MtAt.ps (h:MtAt W0 W v zs B u ys t wl):PS W v zs:=⟨OwnE.slice h.own (ptcells_fiveM zs),h.its⟩
theorem MtAt.bs (h:MtAt W0 W v zs B u ys t wl):PS W u ys:=⟨OwnE.slice h.back (ptcells_fiveM ys),h.bits⟩
theorem MtAt.far (h:MtAt W0 W v zs B u ys t wl)(hb:Below W.heap.size W W'):MtAt W0 W' v zs B u ys t wl :=
 ⟨q_next h.below hb,OwnE.far h.own hb (Nat.le_refl _),fun z hz=>(h.its z hz).below hb,h.base,OwnE.far h.back hb (Nat.le_refl _),fun z hz=>(h.bits z hz).below hb,OwnE.far h.want hb (Nat.le_refl _)⟩
theorem MtAt.votes (h:MtAt W0 W v zs B u ys t wl)(hg:W.grownBy W' t.ownBlock)(ho:OwnV W' W0.heap.size t' wl'):MtAt W0 W' v zs B u ys t' wl' :=
 ⟨h.below.grown hg h.below.size (fun j e=>OwnE.ge h.want j e),OwnE.other h.want h.own (by decide) hg,fun z hz=>IT.ownM (h.its z hz) h.want (by decide) (by decide) hg,h.base,OwnE.other h.want h.back (by decide) hg,fun z hz=>IT.ownM (h.bits z hz) h.want (by decide) (by decide) hg,ho⟩
theorem MtAt.part (h:MtAt W0 W v zs B u ys t wl)(hl:Lt v B){z:PartP × Value}(hz:IT W z.2 z.1.items)(hg:W.grownBy W' v.ownBlock)(ho:OwnE W' W0.heap.size 92 5 v' (ptcells (zs++[z]))):MtAt W0 W' v' (zs++[z]) B u ys t wl:=by
 refine⟨h.below.grown hg h.below.size (fun j e=>OwnE.ge h.own j e),ho,fun y hy=>?_,h.base,World.ownsRow.kept h.back hg ?_,fun z hz=>IT.ownM (h.bits z hz) h.own (by decide) (by decide) hg,OwnE.other h.own h.want (by decide) hg⟩
 ·rcases List.mem_append.1 hy with hy | hy
  ·exact IT.ownM (h.its y hy) h.own (by decide) (by decide) hg
  ·rw[List.mem_singleton.1 hy];exact IT.ownM hz h.own (by decide) (by decide) hg
 ·cases e:u.ownBlock with
  | none=>exact .inl rfl
  | some b =>
   refine .inr fun e'=>?_
   have h1:=OwnE.ge h.back b e
   have h2:=hl b e'.symm
   omega
theorem MtAt.turn (h:MtAt W0 W v zs B u ys t wl)(hb:Below W.heap.size W W')(ho:OwnE W' W.heap.size 92 5 u' (ptcells ys'))(hi:∀ z∈ys',IT W' z.2 z.1.items):MtAt W0 W' v zs W.heap.size u' ys' t wl∧Lt v W.heap.size :=
 ⟨⟨q_next h.below hb,OwnE.far h.own hb (Nat.le_refl _),fun z hz=>(h.its z hz).below hb,h.below.size,ho,hi,OwnE.far h.want hb (Nat.le_refl _)⟩,fun g e=>(World.ownsRow.lt h.own g e).2⟩
theorem MtAt.more (h:MtAt W0 W v zs B u ys t wl)(hl:Lt v B)(hg:W.grownBy W' u.ownBlock):PS W' v zs∧VS W' t wl:=by
 refine⟨⟨OwnE.slice (World.ownsRow.kept h.own hg ?_) (ptcells_fiveM zs),fun z hz=>IT.ownM (h.its z hz) h.back (by decide) (by decide) hg⟩,OwnV.vs (OwnE.other h.back h.want (by decide) hg)⟩
 cases e:v.ownBlock with
 | none=>exact .inl rfl
 | some b =>
  refine .inr fun e'=>?_
  have h1:=OwnE.ge h.back b e'.symm
  have h2:=hl b e
  omega
end
theorem MtAt.start (W0:World):MtAt W0 W0 (.slice none 0 0) [] W0.heap.size (.slice none 0 0) [] (.slice none 0 0) [] :=
 ⟨Below.refl _ _,OwnE.nil _ _ _ _,fun z h=>(by cases h),Nat.le_refl _,OwnE.nil _ _ _ _,fun z h=>(by cases h),OwnE.nil _ _ _ _⟩
theorem grown_row {wq W W':World}{r x:Option Nat}(h:wq.grownBy W r)(hg:W.grownBy W' x)(hx:x=r∨∀ g,x=some g→wq.heap.size≤g):wq.grownBy W' r:=by
 refine⟨hg.os.trans h.os,hg.tape.trans h.tape,hg.output.trans h.output,Nat.le_trans h.size hg.size,fun i hi hr=>?_⟩
 refine(hg.block i (Nat.lt_of_lt_of_le hi h.size) (fun e=>?_)).trans (h.block i hi hr)
 rcases hx with hx | hx
 ·exact hr (e.trans hx)
 ·have:=hx i e.symm
  omega
theorem partW_let (b who:Nat){pool:List VoteP}(hf:∀ v∈pool,formedV v=true):∃(siz:Int) (root sl:ByteArray) (its:List ItemP),partW b who pool=⟨⟨(who:Int),siz,root,sl⟩,its⟩∧siz≤60∧root.size≤1000∧its.length≤100∧∀ y∈its,y.prf.length≤1000∧y.ent.size≤1000:=by
 have hl:=ownW_len who pool
 have h2:=entsW_len (ownW who pool)
 refine⟨_,_,_,_,rfl,?_,?_,?_,?_⟩
 ·show((entsW (ownW who pool)).length:Int)≤60
  omega
 ·show(rootB _).size≤1000
  rw[rootB_size];omega
 ·show((shownW (isW b (ownW who pool).length)).map _).length≤100
  rw[List.length_map]
  have:=shownW_len b (ownW who pool).length
  omega
 ·intro y hy
  obtain⟨i,hi,rfl⟩:=List.mem_map.1 hy
  refine⟨?_,?_⟩
  ·show(proofB _ i).length≤1000
   unfold proofB
   rw[List.length_reverse]
   have h3:=downL_len leafS nodeS (sumS ⟨#[]⟩) ((entsW (ownW who pool)).take (entsW (ownW who pool)).length) i
   rw[List.length_take]at h3
   omega
  ·show((entsW (ownW who pool)).getD i ⟨#[]⟩).size≤1000
   rw[List.getD_eq_getElem?_getD]
   cases e:(entsW (ownW who pool))[i]? with
   | none=>exact Nat.zero_le _
   | some s=>exact entsW_size _ (fun v hv=>hf v (ownW_mem hv).1) s (List.mem_of_getElem? e)
theorem partW_ok (b who:Nat){pool:List VoteP}(hf:∀ v∈pool,formedV v=true):PartOk (partW b who pool):=by
 obtain⟨siz,root,sl,its,e,_,h2,h3,h4⟩:=partW_let b who hf
 rw[e]
 refine⟨h2,by show its.length≤10000;omega,fun y hy=>?_⟩
 have:=h4 y hy
 omega
set_option maxHeartbeats 1000000 in
theorem zigzagG_any (z:Nat)(hz:z < 9223372036854775808)(h62:¬ unzig z < -4611686018427387903)(w:World):Calls Tryz.prog 122 #[.int .i64 (unzig z)] w fun e w'=>e=.returned (.int .u64 (z:Int))∧w'=w:=by
 have hcase:(∃ h:Nat,z=2*h∧unzig z=(h:Int))∨∃ h:Nat,z=2*h+1∧unzig z=-(h:Int) - 1:=by
  unfold unzig
  by_cases e:z % 2=0
  ·exact .inl ⟨z / 2,by omega,by rw[if_pos e]⟩
  ·exact .inr ⟨z / 2,by omega,by rw[if_neg e]⟩
 rcases hcase with⟨h,rfl,hu⟩ | ⟨h,rfl,hu⟩
 ·rw[hu]at h62 ⊢
  have t0:¬ (h:Int) < 0:=by omega
  clear hu h62
  go_enter Tryz.func122,Tryz.ntmps122
  go_wp2
  go_ret
  exact⟨ret_int (by omega),rfl⟩
 ·rw[hu]at h62 ⊢
  obtain⟨m,hm⟩:∃ m:Nat,m=h+1:=⟨_,rfl⟩
  have e1:-(h:Int) - 1=-(m:Int):=by omega
  have e2:2*h+1=2*m - 1:=by omega
  have hm0:0 < m:=by omega
  have hm1:m≤4611686018427387903:=by omega
  rw[e1,e2]
  have t0:-(m:Int) < 0:=by omega
  have e3:IntKind.i64.wrap (-(-(m:Int)))=(m:Int):=by rw[Int.neg_neg];exact IntWalk.i64_in _ (by omega)
  have e4:IntKind.u64.wrap (m:Int)=(m:Int):=u64_in _ (by omega)
  have e5:IntKind.u64.wrap ((m:Int)*2)=(m:Int)*2:=by rw[IntKind.wrap_u64];omega
  have e6:IntKind.u64.wrap ((m:Int)*2 - 1)=(m:Int)*2 - 1:=by rw[IntKind.wrap_u64];omega
  clear hu h62 hz hm e1 e2
  go_enter Tryz.func122,Tryz.ntmps122
  go_wp2
  go_ret
  exact⟨ret_int (by omega),rfl⟩
def PutAtG (z0 f z:Nat)(pre:List Nat):Prop:=z < 128 ^ (f+1)∧pre.length+f=8∧(∀ y∈pre,y < 256)∧pre.map UInt8.ofNat++grp f z=grp 8 z0
theorem PutAtG.next {z0 f z:Nat}{pre:List Nat}(h:PutAtG z0 f z pre)(hz:128≤z):∃ g,f=g+1∧PutAtG z0 g (z / 128) (pre++[z % 128+128]):=by
 obtain⟨h1,h2,h3,h4⟩:=h
 cases f with
 | zero=>simp at h1;omega
 | succ g =>
  refine⟨g,rfl,?_,by rw[List.length_append];simp;omega,?_,?_⟩
  ·rw[Nat.div_lt_iff_lt_mul (by decide)]
   rw[Nat.pow_succ]at h1
   exact h1
  ·intro y hy
   rcases List.mem_append.1 hy with e | e
   ·exact h3 y e
   ·rw[List.mem_singleton]at e
    omega
  ·rw[← h4,grp_great (by omega),List.map_append,List.append_assoc]
   rfl
theorem PutAtG.last {z0 f z:Nat}{pre:List Nat}(h:PutAtG z0 f z pre)(hz:z < 128):(∀ y∈pre++[z],y < 256)∧strOf (pre++[z])=bytesOf (grp 8 z0):=by
 obtain⟨h1,h2,h3,h4⟩:=h
 refine⟨?_,?_⟩
 ·intro y hy
  rcases List.mem_append.1 hy with e | e
  ·exact h3 y e
  ·rw[List.mem_singleton]at e
   omega
 ·rw[strOf_bytes,List.map_append]
  unfold bytesOf
  rw[← h4,grp_small hz]
  rfl
set_option maxHeartbeats 1000000 in
set_option maxRecDepth 100000 in
theorem r1putG_any (z0:Nat)(hz0:z0 < 9223372036854775808)(w:World)(h62:¬ unzig z0 < -4611686018427387903):Calls Tryz.prog 85 #[.int .i64 (unzig z0)] w fun e w'=>e=.returned (.tuple #[.string (bytesOf (grp 8 z0)),.int .i64 0])∧Below w.heap.size w w':=by
 have HZ:=zh (zigzagG_any z0 hz0 h62 w)
 have t2:¬ (4611686018427387903:Int) < unzig z0:=by unfold unzig;split <;> omega
 have HP:Hid (PutAtG z0 8 z0 []):=zh ⟨by omega,rfl,by simp,rfl⟩
 obtain⟨R,hR⟩:∃ R,R=bytesOf (grp 8 z0):=⟨_,rfl⟩
 rw[← hR]
 have HR:=zh hR
 clear hR
 obtain⟨n,hn⟩:∃ n,n=unzig z0:=⟨_,rfl⟩
 rw[← hn]at HZ t2 h62 ⊢
 clear hn
 go_enter Tryz.func85,Tryz.ntmps85
 go_wp2_with (go_at_call 122;refine HZ.out.mono ?_;rintro e w1 ⟨rfl,rfl⟩)
 go_loopw [4,5] (fun z v wr=>∃(f zn:Nat) (pre:List Nat),z=.int .u64 (zn:Int)∧zn≤z0∧Hid (PutAtG z0 f zn pre)∧Hid (OwnB wr w1.heap.size v pre)∧Hid (Below w1.heap.size w1 wr)) (fun z _ _=>(intOf z).toNat)
 case atStart=>exact⟨8,z0,[],rfl,Nat.le_refl _,HP,zh (OwnE.nil _ _ _ _),zh br0⟩
 case round =>
  clear HP HZ
  obtain⟨f,z,pre,rfl,hzl,hP,hO,hB⟩:=hrel
  obtain⟨va,vn,vc,hv,hvn⟩:=OwnB.form hO.out
  subst hv
  have HVN:=zh hvn
  clear hvn
  have hsz:=hB.out.size
  have HX:Hid (pre.length≤1100000000):=zh (by have:=hP.out.2.1;omega)
  have hz28:z < 9223372036854775808:=by omega
  by_cases hlt:128≤z
  ·have t4:(128:Int)≤(z:Int):=by omega
   obtain⟨g,hg,hN⟩:=hP.out.next hlt
   have HN:=zh hN
   clear hN hg
   have HY:Hid ((z:Int) % 128+128=((z % 128+128:Nat):Int)):=zh (by omega)
   have HQ:Hid ((z:Int) / 128=((z / 128:Nat):Int)):=zh (by omega)
   obtain⟨y,hy⟩:∃ y,y=z % 128+128:=⟨_,rfl⟩
   rw[← hy]at HY HN
   have HOA:Hid (OwnB (wr.alloc (.cells #[.int .u8 ((z:Int) % 128+128)] 5)) w1.heap.size (.slice va vn vc) pre):=zh (OwnE.alloc hO.out _)
   have HNA:=zh (heap_alloc_new wr (.cells #[.int .u8 ((z:Int) % 128+128)] 5))
   have HBA:=zh (hB.out.alloc hsz (.cells #[.int .u8 ((z:Int) % 128+128)] 5))
   have HZ0:=zh hz28
   clear hy hz28
   go_wp2_with (at_builtin;refine wpList_append_byte _ _ w1.heap.size _ pre wr.heap.size _ y HY.out _ HOA.out HX.out HBA.out.size HNA.out rfl rfl rfl rfl ?_;intro v7 w7 hown7 hgr7;have HO7:=zh hown7;have HB7:=zh (HBA.out.grown hgr7 HBA.out.size (fun j e=>OwnE.ge HOA.out j e));clear hown7 hgr7)
   go_roundw
   case rel=>exact⟨g,z / 128,pre++[y],congrArg (Value.int .u64) HQ.out,by omega,HN,HO7,HB7⟩
   case measure =>
    have hq:=HQ.out
    simp[intOf]
    omega
  ·have t4:¬ (128:Int)≤(z:Int):=by omega
   obtain⟨h256,hst⟩:=hP.out.last (by omega)
   have HST:Hid (strOf (pre++[z])=R):=zh (by rw[hst,HR.out])
   have H256:=zh h256
   have HY:Hid ((z:Int)=((z:Nat):Int)):=zh rfl
   have HOA:Hid (OwnB (wr.alloc (.cells #[.int .u8 (z:Int)] 5)) w1.heap.size (.slice va vn vc) pre):=zh (OwnE.alloc hO.out _)
   have HNA:=zh (heap_alloc_new wr (.cells #[.int .u8 (z:Int)] 5))
   have HBA:=zh (hB.out.alloc hsz (.cells #[.int .u8 (z:Int)] 5))
   have hz8:z < 128:=by omega
   clear h256 hst hP
   go_wp2_with (first | (at_builtin;refine wpList_append_byte _ _ w1.heap.size _ pre wr.heap.size _ z HY.out _ HOA.out HX.out HBA.out.size HNA.out rfl rfl rfl rfl ?_;intro v7 w7 hown7 hgr7;have HO7:=zh hown7;have HB7:=zh (HBA.out.grown hgr7 HBA.out.size (fun j e=>OwnE.ge HOA.out j e));clear hown7 hgr7;obtain⟨gx,ox,cx,hv7,_,_,_,hx3⟩:=HO7.out.cells (by simp);have HX3:=zh hx3;clear hx3;subst hv7) | (refine wpList_convS (pre++[z]) H256.out 80 9 5 _ gx ox _ cx rfl rfl rfl (by simp) (by kernel_rfl) (by kernel_rfl) (by kernel_rfl) HX3.out ?_))
   go_ret2
   exact⟨congrArg (fun s=>Ending.returned (.tuple #[.string s,.int .i64 0])) HST.out,HB7.out⟩
set_option maxHeartbeats 1000000 in
theorem r1putNo_any (n:Int)(hn:n < -4611686018427387903)(w:World):Calls Tryz.prog 85 #[.int .i64 n] w fun e w'=>e=.returned (.tuple #[.string ⟨#[]⟩,.int .i64 10])∧w'=w:=by
 go_enter Tryz.func85,Tryz.ntmps85
 go_wp2
 refine bodyPost_ret (results_tmp2 rfl _ _ _) rfl ⟨rfl,rfl⟩
theorem read_put {L:List UInt8}{k z:Nat}{b:UInt8}(hI:intL 9 0 0 L=if(b.toNat=0∧0 < k)∨unzig z < -4611686018427387903 then none else some (unzig z,k+1))(hz:z < 9223372036854775808)(h62:¬ unzig z < -4611686018427387903) :
  grp 8 z=L.take (k+1) ↔ ¬ (b.toNat=0∧0 < k):=by
 constructor
 ·intro he hb
  rw[if_pos (.inl hb)]at hI
  have e1:L=grp 8 z++L.drop (k+1):=by rw[he,List.take_append_drop]
  have e2:unzig (0+z*128 ^ 0)=unzig z:=by rw[Nat.zero_add,Nat.pow_zero,Nat.mul_one]
  have h:=intL_grp 8 9 0 0 z (L.drop (k+1)) (by omega) (by omega) (by omega) (by rw[e2];exact h62)
  rw[← e1,hI]at h
  cases h
 ·intro hb
  rw[if_neg (by rintro(h | h);exact hb h;exact h62 h)]at hI
  obtain⟨m,rest,h1,h2,h3,h4,_⟩:=intL_is 9 0 0 L _ _ hI
  rw[Nat.zero_add,Nat.pow_zero,Nat.mul_one]at h2
  have hm:m=z:=by
   unfold unzig at h2
   split at h2 <;> split at h2 <;> omega
  rw[hm]at h3 h4
  rw[Nat.zero_add]at h4
  have h5:L=grp 8 z++rest:=h3
  rw[h4,h5]
  exact(List.take_left).symm
end Go.Proofs.YtggdcnjaofflbaaGreatDoor
