/- Walk of the law: QuorumMeets, from the two parts on. The conditions: what is known. -/
import Derived.Test.YtggdcnjaofflbaaGreatDoorMM30
namespace Go.Proofs.YtggdcnjaofflbaaGreatDoor
open Go.RowKit Go.BigFrame
theorem partOkR_of {z:PartP}(h:PartOk z)(hl:z.items.length≤1000):PartOkR z:=⟨hl,fun y hy=>h.2.2 y hy⟩
def rtQM4 (c:Code):Code:=rtQ (rtQ (rtQ (rtQ (rtQ (rtQ (rtQ (rtQ (rtQ (c)))))))))
theorem tailQM4 {c L:Code}(h:∃ a0 a1 a2 a3 a4 a5 a6 a7 a8:Code,Tryz.f10.body=some (a0.seq (a1.seq (a2.seq (a3.seq (a4.seq (a5.seq (a6.seq (a7.seq (a8.seq (c)))))))))))(hL:Tryz.f10.body.map rtQM4=some L:=by rfl):c=L:=by
 obtain⟨a0,a1,a2,a3,a4,a5,a6,a7,a8,e⟩:=h
 rw[e]at hL
 exact Option.some.inj hL
set_option maxHeartbeats 16000000 in
set_option maxRecDepth 100000 in
theorem meets_ask {w w9 wb:World}(HB9:Hid (Below w.heap.size w w9))(HE9:Hid (QEnv w9))(bc m kc kb ko b p q B:Nat)(v u t iv1 iv2 jv1 jv2:Value)(O:List VoteP)(at1 value:Int)
  (hm:m=1∨m=4∨m=7) (hp:p < m) (hq:q < m) (hf:Hid (∀ y∈O,formedV y=true)) (ix1:I64 at1) (ix2:I64 value)
  (HK:Hid (SS w9 (.slice (some ⟨kb,ko,none⟩) m kc) (madeQ m))) (HCB:Hid (∀ W,Below w9.heap.size w9 W→W.cell? ⟨bc,0,none⟩=some (.slice (some ⟨kb,ko,none⟩) m kc)∧∀ j,j < m→W.cell? ⟨kb,ko+j,none⟩=some (.string (keyQ j))))
  (HM:Hid (MtAt w9 wb v [(partW b p O,iv1),(partW b q O,iv2)] B u [(partW b q O,jv2),(partW b p O,jv1)] t (wantW b p O++wantW b q O))) (HL:Hid (Lt v B)) (hBw:B≤wb.heap.size) {u0 u1 u2 u3 u4 u7 u8 u9 u10 u11 u12 u13 u14 u17 u21 u22 u23 u24 u25 u26 u27 u28 u29 u30 u31 u32 u33 u34 u35 u36 u37 u38 u39 u40 u41 u42 u43 u44 u45 u46 u47 u48 u49 u50 u51 u52 u53 u54 u55 u56 u57 u58 u59 u60 u61 u62 u63 u64 u65 u66 u67 u68 u69 u70 u71 u72 u73 u74 u75 u76 u77 u78 u79 u80 u81 u82 u83 u84 u85 u86 u87 u88 u89 u90 u91 u92 u93 u94 u95 u96 u97 u98 u99 u100 u101 u102 u103 u104 u105 u106 u107 u108 u109 u110 u111 u112 u113 u114 u115 u116 u117 u118 u119 u120 u121 u122 u123 u124 u125 u126 u127 u128 u129 u130 u131 u132 u133 u134 u135 u136 u137 u138 u139 u140 u141 u142 u143 u144 u145 u146 u147 u148 u149 u150 u151 u152 u153 u154 u155 u156 u157 u158 u159 u160 u161 u162 u163 u164 u165 u166 u167 u168 u169 u170 u171 u172 u173 u174 u175 u176 u177 u178 u179 u180 u181 u182 u183 u184 u185 u186 u187 u188 u189 u190 u191 u192 u193 u194 u195 u196 u197 u198 u199 u200 u201 u202 u203 u204 u205 u206 u207 u208 u209 u210 u211 u212 u213 u214 u215 u216 u217 u218 u219 u220 u221 u222 u223 u224 u225 u226 u227 u228 u229 u230 u231 u232 u233 u234 u235 u236 u237 u238 u239 u240 u241 u242 u243 u244 u245 u246 u247 u248 u249 u250 u251 u252 u253 u254 u255 u256 u257 u258 u259 u260 u261 u262 u263 u264 u265 u266 u267 u268 u269 u270 u271 u272 u273 u274 u275 u276 u277 u278 u279 u280 u281 u282 u283 u284 u285 u286 u287 u288 u289 u290 u291 u292 u293 u294 u295 u296 u297 u298 u299 u300 u301 u302 u303 u304 u305 u306 u307 u308 u309 u310 u311 u312 u313 u314:Value} :
  ∃ c:Code,(∃ a0 a1 a2 a3 a4 a5 a6 a7 a8:Code,Tryz.f10.body=some (a0.seq (a1.seq (a2.seq (a3.seq (a4.seq (a5.seq (a6.seq (a7.seq (a8.seq (c)))))))))))∧c.wp Tryz.prog (bodyPost Tryz.prog Tryz.f10 fun e w'=>e=.returned (.bool true)∧Below w.heap.size w w') { tmps:=#[u0,u1,u2,u3,u4,.int .i64 at1,.int .i64 value,u7,u8,u9,u10,u11,u12,u13,u14,.bool true,.pointer (some ⟨bc,0,none⟩),u17,v,u,t,u21,u22,u23,u24,u25,u26,u27,u28,u29,u30,u31,u32,u33,u34,u35,u36,u37,u38,u39,u40,u41,u42,u43,u44,u45,u46,u47,u48,u49,u50,u51,u52,u53,u54,u55,u56,u57,u58,u59,u60,u61,u62,u63,u64,u65,u66,u67,u68,u69,u70,u71,u72,u73,u74,u75,u76,u77,u78,u79,u80,u81,u82,u83,u84,u85,u86,u87,u88,u89,u90,u91,u92,u93,u94,u95,u96,u97,u98,u99,u100,u101,u102,u103,u104,u105,u106,u107,u108,u109,u110,u111,u112,u113,u114,u115,u116,u117,u118,u119,u120,u121,u122,u123,u124,u125,u126,u127,u128,u129,u130,u131,u132,u133,u134,u135,u136,u137,u138,u139,u140,u141,u142,u143,u144,u145,u146,u147,u148,u149,u150,u151,u152,u153,u154,u155,u156,u157,u158,u159,u160,u161,u162,u163,u164,u165,u166,u167,u168,u169,u170,u171,u172,u173,u174,u175,u176,u177,u178,u179,u180,u181,u182,u183,u184,u185,u186,u187,u188,u189,u190,u191,u192,u193,u194,u195,u196,u197,u198,u199,u200,u201,u202,u203,u204,u205,u206,u207,u208,u209,u210,u211,u212,u213,u214,u215,u216,u217,u218,u219,u220,u221,u222,u223,u224,u225,u226,u227,u228,u229,u230,u231,u232,u233,u234,u235,u236,u237,u238,u239,u240,u241,u242,u243,u244,u245,u246,u247,u248,u249,u250,u251,u252,u253,u254,u255,u256,u257,u258,u259,u260,u261,u262,u263,u264,u265,u266,u267,u268,u269,u270,u271,u272,u273,u274,u275,u276,u277,u278,u279,u280,u281,u282,u283,u284,u285,u286,u287,u288,u289,u290,u291,u292,u293,u294,u295,u296,u297,u298,u299,u300,u301,u302,u303,u304,u305,u306,u307,u308,u309,u310,u311,u312,u313,u314],defers:=[] } wb:=by
 refine⟨_,⟨_,_,_,_,_,_,_,_,_,rfl⟩,?_⟩
 have hvk:=madeQ_valid hm
 obtain⟨hm1,hm2⟩:=meet_two (b:=b) hm hp hq hf.out
 have HOK1:=zh (partW_ok b p hf.out)
 have HOK2:=zh (partW_ok b q hf.out)
 have HIL1:Hid ((partW b p O).items.length≤1000):=zh (by
  obtain⟨siz,root,sl,its,e,_,_,h,_⟩:=partW_let b p hf.out
  rw[e]
  show its.length≤1000
  omega)
 have HIL2:Hid ((partW b q O).items.length≤1000):=zh (by
  obtain⟨siz,root,sl,its,e,_,_,h,_⟩:=partW_let b q hf.out
  rw[e]
  show its.length≤1000
  omega)
 obtain⟨A,hA⟩:∃ A,A=sortedV (madeQ m) (wantW b p O++wantW b q O):=⟨_,rfl⟩
 rw[← hA]at hm1 hm2
 have HA:=zh hA
 have HM1:=zh hm1
 have HM2:=zh hm2
 have HFO:=hf
 clear hA hm1 hm2
 have HBb:=zh HM.out.below
 have HKb:=zh (HK.out.below HBb.out)
 have HEb:=zh (HE9.out.step HBb.out)
 have HME1:=zh (meet_own HKb.out (valid_sizes hvk) HM.out.ps (fun z hz=>by
  simp only[List.mem_cons,List.not_mem_nil,or_false]at hz
  rcases hz with rfl | rfl
  ·exact HOK1.out
  ·exact HOK2.out) HEb.out.env HEb.out.round)
 simp only[List.map_cons,List.map_nil]at HME1
 rw[HM1.out]at HME1
 obtain⟨va,vcap,hv⟩:=OwnE.form HM.out.own
 replace hv:v=.slice va 2 vcap:=hv
 subst hv
 obtain⟨ua,ucap,hu⟩:=OwnE.form HM.out.back
 replace hu:u=.slice ua 2 ucap:=hu
 subst hu
 obtain⟨ta,tcap,ht⟩:=HM.out.want.form
 obtain⟨tn,htn⟩:∃ n,n=(wantW b p O++wantW b q O).length:=⟨_,rfl⟩
 rw[← htn]at ht
 subst ht
 clear htn
 obtain⟨c0,-⟩:=HCB.out wb HBb.out
 go_upto_region 27 with(go_at_call 48;(with_reducible refine HME1.out.mono ?_);rintro e w2 ⟨vA,rfl,hvA,hb2⟩)
 have HMt2:=zh (HM.out.far hb2)
 have HA2:=zh hvA
 have hB2:B≤w2.heap.size:=Nat.le_trans hBw hb2.size
 obtain⟨aa,acap,hvAe⟩:=OwnE.form hvA
 obtain⟨an,han⟩:∃ n,n=(A.map vcells).length:=⟨_,rfl⟩
 rw[← han]at hvAe
 subst hvAe
 clear hvA hb2 c0 HME1 han
 have hB92:=HMt2.out.below
 have HS0:Hid (LowKept w2 w9.heap.size w2.drew):=zh ⟨hB92.size,Below.drew (Below.mono (Below.refl _ w2) hB92.size)⟩
 have HC9:=zh (fun W (hW:LowKept w2 w9.heap.size W)=>(HCB.out W (hB92.trans hW.2)).1)
 have HPZ0:=zh HMt2.out
 refine wp_region_noPanic ?_
 refine wp_region_lexF [.q 0,.q 1,.q 2,.b 3,.b 4,.q 5] (LowKept w2 w9.heap.size) (by kernel_rfl) (by kernel_rfl) (fun _ _ _ _ h=>h) LowKept.more HS0.out ?_
 iterate 3(refine wpFl_qL (v:=?_) rfl (Or.inl ⟨by rfl,?_⟩) ?_;rotate_left;(focus(intro w' hSw;have c0:=HC9.out w' hSw;go_simp;(try with_reducible rfl);done));simp only[Act.put,zzA,zzB,zzC])
 refine wpFl_bS rfl (fun wf hnf hsf K hK=>?_)
 have HM3:=zh (HMt2.out.far (q_next (Below.drew br0) hnf))
 have HA3:=zh (OwnE.far HA2.out (q_next (Below.drew br0) hnf) (Nat.le_refl _))
 have hBf:B≤wf.heap.size:=Nat.le_trans hB2 (q_next (Below.drew (Below.refl _ w2)) hnf).size
 refine step_append_partsM rfl _ _ B _ _ _ _ HM3.out.back HM3.out.ps (by simp) hBf rfl rfl rfl ?_
 intro u' wg hown hgr
 obtain⟨hps,hws⟩:=HM3.out.more HL.out hgr
 have HPG:=zh hps
 have HWG:=zh hws
 have HAG:=zh (OwnE.other HM3.out.back HA3.out (by decide) hgr)
 have HUG:Hid (PS wg u' ([(partW b q O,jv2),(partW b p O,jv1)]++[(partW b p O,iv1),(partW b q O,iv2)])):=zh ⟨OwnE.slice hown (ptcells_fiveM _),fun z hz=>by
  rcases List.mem_append.1 hz with hz | hz
  ·exact IT.ownM (HM3.out.bits z hz) HM3.out.back (by decide) (by decide) hgr
  ·exact IT.ownM (HM3.out.its z hz) HM3.out.back (by decide) (by decide) hgr⟩
 have HSG:Hid (LowKept w2 w9.heap.size wg):=zh ⟨hsf.1,Below.grown hsf.2 hgr (Nat.le_trans hsf.1 hsf.2.size) (fun j e=>Nat.le_trans HM3.out.base (OwnE.ge HM3.out.back j e))⟩
 obtain⟨ga,gcap,hue⟩:=OwnE.form hown
 replace hue:u'=.slice ga 4 gcap:=hue
 subst hue
 refine hK.out _ _ HSG.out (Nat.le_trans hsf.2.size hgr.size) Keeps.nil ?_
 clear hK K hps hws hown hgr hnf hsf HM3 HA3 hBf
 simp only[Act.put,zzA,zzB,zzC]
 refine wpFl_bS rfl (fun wh hnh hsh K hK=>?_)
 have hB9h:=hB92.trans hsh.2
 have hEh:=HE9.out.step hB9h
 have HME2:=zh (meet_own (HK.out.below hB9h) (valid_sizes hvk) (HUG.out.below hnh) (fun z hz=>by
  simp only[List.cons_append,List.nil_append,List.mem_cons,List.not_mem_nil,or_false]at hz
  rcases hz with rfl | rfl | rfl | rfl
  ·exact HOK2.out
  ·exact HOK1.out
  ·exact HOK1.out
  ·exact HOK2.out) hEh.env hEh.round)
 simp only[List.cons_append,List.nil_append,List.map_cons,List.map_nil]at HME2
 rw[HM2.out]at HME2
 go_simp
 go_at_call 48
 (with_reducible refine HME2.out.mono ?_)
 rintro e wi ⟨vB,rfl,hvB,hbi⟩
 have HBi:=zh (q_next hnh hbi)
 have HVB:=zh (OwnV.vs hvB)
 have HSi:=zh (LowKept.more _ _ hsh hbi)
 refine hK.out _ _ HSi.out (Nat.le_trans hsh.2.size hbi.size) Keeps.nil ?_
 clear hK K hnh hsh hvB hbi hB9h hEh HME2
 refine wpFl_qL (v:=?_) rfl (Or.inl ⟨by rfl,?_⟩) ?_
 rotate_left
 focus(intro w' hSw;go_simp;(try with_reducible rfl);done)
 simp only[Act.put,zzA,zzB,zzC]
 refine wpFl_nil ?_
 refine NoPanic.normal ?_
 have HBZ9:=zh (hB92.trans HSi.out.2)
 have HPZ:=zh (HPG.out.below HBi.out)
 have HWZ:=zh (HWG.out.below HBi.out)
 have HAZ:=zh (VS.below (OwnV.vs HAG.out) HBi.out)
 have HKi:=zh (HK.out.below HBZ9.out)
 clear HPG HWG HAG HUG HSG HBi HSi HS0 HC9 HPZ0 HMt2 HA2 hB2 hB92
 obtain⟨ba,bn,bcap,hvBe⟩:=HVB.out.form
 subst hvBe
 have HS1:=zh (fun W (hW:Below wi.heap.size wi W)=>sameV_any (HAZ.out.below hW) (HVB.out.below hW))
 have HR1:=zh (fun W (hW:Below wi.heap.size wi W)=>rmeet_any (HKi.out.below hW) (valid_sizes hvk) (HPZ.out.below hW) (fun z hz=>by
  simp only[List.mem_cons,List.not_mem_nil,or_false]at hz
  rcases hz with rfl | rfl
  ·exact partOkR_of HOK1.out HIL1.out
  ·exact partOkR_of HOK2.out HIL2.out))
 simp only[List.map_cons,List.map_nil]at HR1
 rw[HM1.out]at HR1
 rw[decide_eq_true (rfl:A=A)]at HS1
 have HC28:=zh (fun W (hW:Below wi.heap.size wi W)=>(HCB.out W (q_next HBZ9.out hW)).1)
 have c0:=HC28.out wi br0
 go_upto_region 28 with fail
 go_cut [145] (fun f wx=>f=.bool false∧Hid (Below wi.heap.size wi wx))
 case first =>
  go_wp2_with (first | (go_at_call 49;(with_reducible refine(HS1.out _ br0).mono ?_);clear c0;rintro e w1 ⟨rfl,hb1⟩;have HBx:=zh hb1;have c0:=HC28.out w1 hb1;clear hb1) | (go_at_call 50;(with_reducible refine(HR1.out _ HBx.out).mono ?_);rintro e w3 ⟨vR,rfl,hvR,hb3⟩;have HS2:=zh (sameV_any (HAZ.out.below (q_next HBx.out hb3)) hvR);rw[decide_eq_true (rfl:A=A)]at HS2;have HBy:=zh (q_next HBx.out hb3);obtain⟨ra,rn,rcap,hvRe⟩:=hvR.form;subst hvRe;clear hvR hb3) | (go_at_call 49;(with_reducible refine HS2.out.mono ?_);rintro e w4 ⟨rfl,hb4⟩;have HBv:=zh (q_next HBy.out hb4);clear hb4))
  go_meet
  case rel=>exact⟨rfl,HBv⟩
 case rest =>
 obtain⟨h145,HB28⟩:=hcut
 subst h145
 rename_i hKK
 refine hKK _ _ ?_
 iterate 4 go_step
 have HBc:=zh (q_next HBZ9.out HB28.out)
 have HBY:=zh (HB9.out.trans (HBc.out.mono HB9.out.size))
 have HEY:=zh (HE9.out.step HBc.out)
 have HKY:=zh (HK.out.below HBc.out)
 have HCY:=zh (fun W (hW:Below wc.heap.size wc W)=>And.intro (HCB.out W (q_next HBc.out hW)).1 ((HCB.out W (q_next HBc.out hW)).2 p hp))
 have hPY:=HPZ.out.below HB28.out
 have HWY:=zh (HWZ.out.below HB28.out)
 have HAY:=zh (HAZ.out.below HB28.out)
 have HFY:Hid (∀ y∈wantW b p O++wantW b q O,(A.any fun a=>decide (a=y))=genuineV (madeQ m) y):=zh (fun y hy=>by rw[HA.out];exact found_gen hvk hy)
 have HW2:Hid (∀ a∈A,((wantW b p O++wantW b q O).any fun y=>decide (a=y))=true):=zh (fun a ha=>found_want (ks:=madeQ m) (by rw[← HA.out];exact ha))
 have HNX:Hid (∀(k:Nat) (a c:VoteP),A[k]?=some a→A[k+1]?=some c→a≠c):=zh (fun k a c h1 h2=>sorted_next (ks:=madeQ m) (by rw[← HA.out];exact h1) (by rw[← HA.out];exact h2))
 obtain⟨siz,root,sl,its,e,h1,h2,h3,h4⟩:=partW_let b p HFO.out
 have HGG:Hid (∀(x:ItemP) (xs:List ItemP),its=x::xs→∀(v:VoteP) (s:ByteArray),v∈meetV (madeQ m) [⟨⟨(p:Int),siz,root,sl⟩,⟨x.idx,s,x.prf⟩::xs⟩]→v ∉ wantW b p O++wantW b q O→checkB (keyQ p) ⟨⟨(p:Int),siz,root,sl⟩,⟨x.idx,s,x.prf⟩::xs⟩=true∧verifyB root siz x.idx s x.prf=true∧verifyB root siz x.idx x.ent x.prf=true):=zh (fun x xs hx v s hv hn=>by
  have h:=bent_law (b:=b) hm hp HFO.out (x:=x) (xs:=xs) (v:=v) (s:=s) (by rw[e];exact hx) (by rw[e];exact hv) (fun h=>hn (List.mem_append_left _ h))
  rw[e]at h
  exact h)
 rw[e]at hPY
 have HPY:=zh hPY
 clear e hPY
 refine wp_of_eqM (meets_loops HBY HEY bc m kc p kb ko vcap va (.slice ta tn tcap) (.slice aa an acap) (wantW b p O++wantW b q O) A at1 value siz root sl its iv1 (partW b q O,iv2) hm hp h1 h2 h3 (zh h4) ix1 ix2 HKY HCY HPY HWY HAY HFY HW2 HNX HGG).choose_spec.2 ?_
 exact tailQM3 (meets_loops HBY HEY bc m kc p kb ko vcap va (.slice ta tn tcap) (.slice aa an acap) (wantW b p O++wantW b q O) A at1 value siz root sl its iv1 (partW b q O,iv2) hm hp h1 h2 h3 (zh h4) ix1 ix2 HKY HCY HPY HWY HAY HFY HW2 HNX HGG).choose_spec.1
theorem show_part {w:World}{rv vl:Value}{key:ByteArray}{car:Int}{xs:List ByteArray}{is:List Nat}(hr:SS w rv xs)(hl:IL w vl (is.map fun i:Nat=>(i:Int)))(hk:key.size=32)(hv:validB ⟨car,xs⟩=true)(hp:is.Pairwise (· < ·))(hlt:∀ i∈is,i < xs.length)(hll:is.length≤100000)(he:Env w)(hg:3 < w.heap.size)
  (c1 c2:Int) (c3 c4:ByteArray) (its:List ItemP) (hpp:(⟨⟨c1,c2,c3,c4⟩,its⟩:PartP)=partS key car xs xs.length is) :
  Calls Tryz.prog 47 #[.string key,.agg #[.int .i64 car,rv],.int .i64 (xs.length:Int),vl] w fun e w'=>∃(a:Option Addr) (c:Nat),e=.returned (.tuple #[.agg #[.int .i64 c1,.int .i64 c2,.string c3,.string c4,.slice a its.length c],.int .i64 0])∧IT w' (.slice a its.length c) its∧Below w.heap.size w w':=by
 refine(show_yes hr hl hk hv (Nat.le_refl _) (by rw[List.length_map];exact hll) he hg).mono ?_
 have hi:=items_asc xs xs.length is none hp hlt (fun j h=>by cases h)
 unfold partS at hpp
 injection hpp with hh hits
 rintro e w' ⟨h,hb⟩
 rcases h with⟨h0,_⟩ | ⟨v',ys,h1,h2,h3⟩
 ·rw[hi]at h0
  cases h0
 ·rw[hi]at h1
  have h1:=Option.some.inj h1
  rw[← hits]at h1
  rw[← hh]at h2
  obtain⟨a,c,hva,_⟩:=h3.is.opened
  have hyl:ys.length=its.length:=by rw[h1,List.length_map]
  rw[hyl]at hva
  subst hva
  exact⟨a,c,h2,⟨ys,h1.symm,h3⟩,hb⟩
theorem VAt.grown {w w':World}{r:Option Nat}{b o:Nat}{v:VoteP}(h:VAt w b o v)(hb:b < w.heap.size)(hr:some b≠r)(hg:w.grownBy w' r):VAt w' b o v:=by
 have key:∀ k,w'.cell? ⟨b,k,none⟩=w.cell? ⟨b,k,none⟩:=fun k=>World.grownBy.cell_far hg ⟨b,k,none⟩ hb hr
 exact⟨(key _).trans h.1,(key _).trans h.2.1,(key _).trans h.2.2.1,(key _).trans h.2.2.2.1,(key _).trans h.2.2.2.2⟩
theorem MadeAt.appends {w W w7:World}{car:Int}{v:Value}{xs ys:List ByteArray}(h:MadeAt w W car v xs){o:Obj}(hg:(W.alloc o).grownBy w7 v.ownBlock){v':Value}(ho:OwnS w7 w.heap.size v' ys) :
  MadeAt w (w7.setCell ⟨w.heap.size+1,1,none⟩ v') car v' ys:=by
 obtain⟨h1,h2,h3,h4⟩:=h
 have key:∀ {k:Nat} {c:Array Value},W.heap[k]?=some (.cells c 85 (0,0))→w7.heap[k]?=some (.cells c 85 (0,0)):=fun {k c} hk =>
  (hg.block k (by have:=(ltA hk);simp;omega) (own_ne h4 hk (fun c' e=>by cases e))).trans (alloc_at hk)
 have b7:Below w.heap.size w w7:=(h1.alloc h1.size o).grown hg (by have:=h1.size;simp;omega) (fun j e=>OwnE.ge h4 j e)
 have g3:=key h3
 refine⟨b7.setCell (p:=⟨w.heap.size+1,1,none⟩) (Nat.le_succ _) _,(Below.heap_setCell _ _ _ _ (by show w.heap.size≠w.heap.size+1;omega)).trans (key h2),?_,?_⟩
 ·rw[heap_setCell_same _ g3];rfl
 ·exact World.ownsRow.kept ho (grown_setCell (grown_refl _ _) ⟨w.heap.size+1,1,none⟩ (.inl rfl) _) (.inr (fun e'=>own_ne ho g3 (fun c' e=>by cases e) e'.symm))
def WrAt (w W:World)(car:Int)(v:Value)(xs:List ByteArray)(u:Value)(l:List VoteP):Prop:=MadeAt w W car v xs∧OwnV W w.heap.size u l
theorem WrAt.far {w W W':World}{car:Int}{v:Value}{xs:List ByteArray}{u:Value}{l:List VoteP}(h:WrAt w W car v xs u l)(hb:Below W.heap.size W W'):WrAt w W' car v xs u l:=⟨h.1.far hb,OwnE.far h.2 hb (Nat.le_refl _)⟩
theorem WrAt.ents {w W w7:World}{car:Int}{v:Value}{xs ys:List ByteArray}{u:Value}{l:List VoteP}(h:WrAt w W car v xs u l){o:Obj}(hg:(W.alloc o).grownBy w7 v.ownBlock){v':Value}(ho:OwnS w7 w.heap.size v' ys) :
  WrAt w (w7.setCell ⟨w.heap.size+1,1,none⟩ v') car v' ys u l:=by
 refine⟨h.1.appends hg ho,?_⟩
 have o1:OwnV w7 w.heap.size u l:=OwnE.other (OwnE.alloc h.1.2.2.2 o) (OwnE.alloc h.2 o) (by decide) hg
 have g3:w7.heap[w.heap.size+1]?=some (.cells #[.int .i64 car,v] 85 (0,0)):=(hg.block _ (by have:=(ltA h.1.2.2.1);simp;omega) (own_ne h.1.2.2.2 h.1.2.2.1 (fun c' e=>by cases e))).trans (alloc_at h.1.2.2.1)
 exact World.ownsRow.kept o1 (grown_setCell (grown_refl _ _) ⟨w.heap.size+1,1,none⟩ (.inl rfl) _) (.inr (fun e'=>own_ne o1 g3 (fun c' e=>by cases e) e'.symm))
theorem WrAt.votes {w W w7:World}{car:Int}{v:Value}{xs:List ByteArray}{u u':Value}{l l':List VoteP}(h:WrAt w W car v xs u l){o:Obj}(hg:(W.alloc o).grownBy w7 u.ownBlock)(ho:OwnV w7 w.heap.size u' l') :
  WrAt w w7 car v xs u' l':=by
 obtain⟨⟨h1,h2,h3,h4⟩,h5⟩:=h
 have key:∀ {k:Nat} {c:Array Value},W.heap[k]?=some (.cells c 85 (0,0))→w7.heap[k]?=some (.cells c 85 (0,0)):=fun {k c} hk =>
  (hg.block k (by have:=(ltA hk);simp;omega) (own_ne h5 hk (fun c' e=>by cases e))).trans (alloc_at hk)
 refine⟨⟨(h1.alloc h1.size o).grown hg (by have:=h1.size;simp;omega) (fun j e=>OwnE.ge h5 j e),key h2,key h3,?_⟩,ho⟩
 exact OwnE.other (OwnE.alloc h5 o) (OwnE.alloc h4 o) (by decide) hg
theorem two_grownW (W:World)(b:Nat)(x y:Value):W.grownBy ((W.setCell ⟨b,0,none⟩ x).setCell ⟨b,1,none⟩ y) (some b) :=
 grown_setCell (grown_setCell (grown_refl _ _) ⟨b,0,none⟩ (.inl rfl) x) ⟨b,1,none⟩ (.inl rfl) y
theorem elseS_lit:(⟨#[115,111,109,101,116,104,105,110,103,32,101,108,115,101]⟩:ByteArray)=elseS:=by decide +kernel
theorem lit2S (w:World)(x y:ByteArray):SS (w.alloc (.cells #[.string x,.string y] 9)) (.slice (some ⟨w.heap.size,0,none⟩) 2 2) [x,y] :=
 slice_lit (cs:=scells [x,y]) (heap_alloc_new w _) (fun c hc=>by simp[scells]at hc;rcases hc with rfl | rfl <;> rfl) rfl (by simp[scells])
set_option maxHeartbeats 8000000 in
set_option maxRecDepth 100000 in
theorem written_any {w:World}{x:Value}{l:List VoteP}(who:Nat)(hx:VS w x l)(hl:l.length≤1000)(hf:∀ v∈l,formedV v=true) :
  Calls Tryz.prog 46 #[.int .i64 who,x] w fun e w'=>∃ v u,e=.returned (.tuple #[.agg #[.int .i64 who,v],u])∧OwnS w' w.heap.size v (entsW (ownW who l))∧OwnV w' w.heap.size u (ownW who l)∧Below w.heap.size w w':=by
 obtain⟨la,lc,rfl,hll,hlm,hl3⟩:=hx.opened
 have HL3:=zh hl3
 have HF:=zh hf
 obtain⟨N,hN⟩:∃ N,N=l.length:=⟨_,rfl⟩
 rw[← hN]at hl ⊢
 have HN:=zh hN
 have HA:Hid (WrAt w ((w.alloc (.cells #[.int .i64 0,.slice none 0 0] 85)).alloc (.cells #[.int .i64 who,.slice none 0 0] 85)) who (.slice none 0 0) (entsW (ownW who (l.take 0))) (.slice none 0 0) (ownW who (l.take 0))) :=
  zh ⟨⟨(br0.alloc (Nat.le_refl _) _).alloc (by simp) _,at_past w _ _,at_second w _ _,OwnE.nil _ _ _ _⟩,OwnE.nil _ _ _ _⟩
 clear hll hlm hl3 hf hx hN
 go_enter Tryz.func46,Tryz.ntmps46
 go_wp2
 go_loopw [7,8] (fun u i wr=>∃(k:Nat) (u' v':Value),k≤N∧u=u'∧i=.int .i64 k∧Hid (WrAt w wr who v' (entsW (ownW who (l.take k))) u' (ownW who (l.take k)))) (fun _ i _=>N - (intOf i).toNat)
 case atStart=>exact⟨0,_,_,by omega,rfl,rfl,HA⟩
 case round =>
  obtain⟨k,u,v,hk,rfl,rfl,hA⟩:=hrel
  clear HA
  obtain⟨ua,uc,hu⟩:=hA.out.2.form
  subst hu
  obtain⟨n,hn⟩:∃ n,n=(ownW who (l.take k)).length:=⟨_,rfl⟩
  have hn10:n≤10:=by rw[hn];exact ownW_len _ _
  have HNN:=zh hn
  rw[← hn]at hA ⊢
  have HEL:Hid ((entsW (ownW who (l.take k))).length=2*n):=zh (by rw[entsW_len,hn])
  clear hn
  by_cases hlt:k < N
  ·have tk:(k:Int) < (N:Int):=by omega
   have tk0:(0:Int)≤(k:Int):=by omega
   obtain⟨y,ey⟩:∃ y,l[k]?=some y:=⟨_,List.getElem?_eq_getElem (by rw[← HN.out];exact hlt)⟩
   obtain⟨lb,lo,rfl,hlb,hlv⟩:=HL3.out k y ey
   have HSN:=zh (ownW_snoc (who:=who) ey)
   have hfy:=HF.out y (List.mem_of_getElem? ey)
   have HV:=zh (fun W (hW:Below w.heap.size w W)=>hlv.keep hW hlb)
   have HEN:=zh (fun W=>enc_yes y hfy W)
   obtain⟨E,hE⟩:∃ E,E=encV y:=⟨_,rfl⟩
   rw[← hE]at HEN
   obtain⟨OL,hOL⟩:∃ OL,OL=ownW who (l.take k):=⟨_,rfl⟩
   rw[← hOL]at hA HSN HEL HNN
   have HES:=zh (entsW_snoc y OL)
   rw[← hE,← elseS_lit]at HES
   have HIW:Hid (isWho who y=decide (y.car=(who:Int))):=zh rfl
   obtain⟨ycar,ynum,ystp,yv,yl⟩:=y
   simp only at HEN HIW HV
   clear ey hlv hE hOL
   have hv1:=HV.out wr hA.out.1.1
   obtain⟨c0,c1,c2,c3,c4⟩:=hv1
   simp only at c0 c1 c2 c3 c4
   go_upto_region 7 with(go_at_call 19;refine(HEN.out _).mono ?_;rintro e w1 ⟨rfl,hb1⟩)
   have HA1:=zh (hA.out.far hb1)
   clear c0 c1 c2 c3 c4
   obtain⟨c0,c1,c2,c3,c4⟩:=HV.out w1 HA1.out.1.1
   simp only at c0 c1 c2 c3 c4
   clear hA hb1
   by_cases hcc:ycar=(who:Int)
   ·subst hcc
    have hbq:((who:Int) == (who:Int))=true:=by simp
    by_cases hn9:n < 10
    ·have tn:(n:Int) < 10:=by omega
     have HS2:Hid (ownW who (l.take (k+1))=OL++[⟨(who:Int),ynum,ystp,yv,yl⟩]):=zh (by rw[HSN.out,if_pos ⟨by rw[HIW.out];exact decide_eq_true rfl,by rw[← HNN.out];exact hn9⟩])
     obtain⟨va,vc,hv⟩:=OwnE.form HA1.out.1.2.2.2
     generalize (scells (entsW OL)).length=L2 at *
     subst hv
     have r1:=cell_of_row w1 _ 1 _ _ _ HA1.out.1.2.2.1
     have hel:(entsW OL).length+2≤1000000:=by rw[HEL.out];omega
     have hol:OL.length≤1000000:=by rw[← HNN.out];omega
     have HL2:=zh (lit2S w1 ⟨#[115,111,109,101,116,104,105,110,103,32,101,108,115,101]⟩ E)
     have HOA:=zh (OwnE.alloc HA1.out.1.2.2.2 (.cells #[.string ⟨#[115,111,109,101,116,104,105,110,103,32,101,108,115,101]⟩,.string E] 9))
     have HBA:=zh (size_al w1 (.cells #[.string ⟨#[115,111,109,101,116,104,105,110,103,32,101,108,115,101]⟩,.string E] 9) HA1.out.1.1.size)
     go_upto_region 8 with fail
     clear HSN HIW c0 c1 c2 c3 c4
     go_upto_region 9 with(at_builtin;refine wpList_append_strs rfl (.tmp 44) (.tmp 46) w.heap.size (.slice va L2 vc) (entsW OL) [⟨#[115,111,109,101,116,104,105,110,103,32,101,108,115,101]⟩,E] (.slice (some ⟨w1.heap.size,0,none⟩) 2 2) HOA.out HL2.out (by simp) hel HBA.out rfl rfl rfl ?_;intro v7 w7 hown7 hgr7;obtain⟨u4,uf⟩:=HA1.out.1.at7 hgr7;have HA7:=zh (HA1.out.ents hgr7 hown7);obtain⟨va7,vc7,hv7⟩:=OwnE.form hown7;clear hown7 hgr7;generalize (scells (entsW OL++[⟨#[115,111,109,101,116,104,105,110,103,32,101,108,115,101]⟩,E])).length=L7 at *;subst hv7)
     clear u4 uf r1 HOA HBA HL2
     generalize w7.setCell ⟨w.heap.size+1,1,none⟩ (.slice va7 L7 vc7)=w8 at *
     obtain⟨c0,c1,c2,c3,c4⟩:=HV.out w8 HA7.out.1.1
     simp only at c0 c1 c2 c3 c4
     have HOB:=zh (OwnE.alloc HA7.out.2 (.cells #[.int .i64 who,.int .i64 ynum,.int .i64 ystp,.string yv,.string yl] 27))
     have HNB:=zh (heap_alloc_new w8 (.cells #[.int .i64 who,.int .i64 ynum,.int .i64 ystp,.string yv,.string yl] 27))
     have HBB:=zh (size_al w8 (.cells #[.int .i64 who,.int .i64 ynum,.int .i64 ystp,.string yv,.string yl] 27) HA7.out.1.1.size)
     go_wp2_with (at_builtin;refine wpList_append_vote (.tmp 49) (.tmp 54) w.heap.size (.slice ua n uc) OL ⟨(who:Int),ynum,ystp,yv,yl⟩ w8.heap.size (0,0) HOB.out hol HBB.out HNB.out rfl rfl rfl rfl ?_;intro v9 w9 hown9 hgr9;have HA9:=zh (HA7.out.votes hgr9 hown9);clear hown9 hgr9)
     go_roundw
     case rel=>exact⟨k+1,_,_,by omega,rfl,by go_num,zh (by rw[HS2.out,HES.out];exact HA9.out)⟩
     case measure=>simp[intOf];omega
    ·have tn:¬ (n:Int) < 10:=by omega
     have HS2:Hid (ownW who (l.take (k+1))=OL):=zh (by rw[HSN.out,if_neg (fun h=>by have:=h.2;rw[← HNN.out]at this;omega),List.append_nil])
     go_wp2
     go_roundw
     case rel=>exact⟨k+1,_,v,by omega,rfl,by go_num,by rw[HS2.out];exact HA1⟩
     case measure=>simp[intOf];omega
   ·have hbq:(ycar == (who:Int))=false:=by simp[hcc]
    have HS2:Hid (ownW who (l.take (k+1))=OL):=zh (by rw[HSN.out,if_neg (fun h=>by have:=h.1;rw[HIW.out]at this;exact hcc (of_decide_eq_true this)),List.append_nil])
    go_wp2
    go_roundw
    case rel=>exact⟨k+1,_,v,by omega,rfl,by go_num,by rw[HS2.out];exact HA1⟩
    case measure=>simp[intOf];omega
  ·obtain rfl:k=N:=by omega
   have tk:¬ (k:Int) < (k:Int):=by omega
   have hfin:l.take k=l:=by rw[HN.out,List.take_length]
   rw[hfin]at hA HEL
   obtain⟨va,vc,hv⟩:=OwnE.form hA.out.1.2.2.2
   subst hv
   have z0:=cell_of_row wr _ 0 _ _ _ hA.out.1.2.1
   have z1:=cell_of_row wr _ 1 _ _ _ hA.out.1.2.1
   have c0:=cell_of_row wr _ 0 _ _ _ hA.out.1.2.2.1
   have c1:=cell_of_row wr _ 1 _ _ _ hA.out.1.2.2.1
   have zf:∀ j,wr.frozen? ⟨w.heap.size,j,none⟩=false:=fun j=>by unfold World.frozen?;rw[hA.out.1.2.1];simp
   have HST:=zh (set2 hA.out.1)
   have HOV:Hid (OwnV ((wr.setCell ⟨w.heap.size,0,none⟩ (.int .i64 who)).setCell ⟨w.heap.size,1,none⟩ (.slice va (scells (entsW (ownW who l))).length vc)) w.heap.size (.slice ua n uc) (ownW who l)):=zh (World.ownsRow.kept hA.out.2 (two_grownW wr w.heap.size _ _) (.inr (fun e'=>own_ne hA.out.2 hA.out.1.2.1 (fun c' e=>by cases e) e'.symm)))
   generalize (scells (entsW (ownW who l))).length=L at *
   go_wp2
   refine bodyPost_ret (results_cellA_tmp rfl _ w.heap.size 85 #[.int .i64 who,.slice va L vc] (0,0) _ rfl HST.out.1 Tryz.underlying85 rfl infoReg) rfl ⟨.slice va L vc,.slice ua n uc,rfl,HST.out.2.2,HOV.out,HST.out.2.1⟩
def madeN (n:Int):Nat:=if pickI n 3=0 then 4 else if pickI n 3=1 then 7 else 1
theorem madeN_or (n:Int):madeN n=1∨madeN n=4∨madeN n=7:=by
 unfold madeN
 split
 ·exact .inr (.inl rfl)
 ·split
  ·exact .inr (.inr rfl)
  ·exact .inl rfl
theorem infoCommittee:(Tryz.prog.info? 31).map (·.size)=some 1:=by kernel_rfl
def MdAt (w:World)(v:Value)(l:List ByteArray)(W:World):Prop:=Below w.heap.size w W∧W.heap[w.heap.size]?=some (.cells #[.slice none 0 0] 31 (0,0))∧W.heap[w.heap.size+1]?=some (.cells #[v] 31 (0,0))∧OwnE W w.heap.size 9 1 v (scells l)
theorem MdAt.far {w:World}{v:Value}{l:List ByteArray}{W W':World}(h:MdAt w v l W)(hb:Below W.heap.size W W'):MdAt w v l W' :=
 ⟨q_next h.1 hb,(hb.block _ (ltA h.2.1)).trans h.2.1,(hb.block _ (ltA h.2.2.1)).trans h.2.2.1,OwnE.far h.2.2.2 hb (Nat.le_refl _)⟩
theorem MdAt.at7 {w W w7:World}{v:Value}{xs:List ByteArray}(h:MdAt w v xs W){o:Obj}(hg:(W.alloc o).grownBy w7 v.ownBlock):w7.cell? ⟨w.heap.size+1,0,none⟩=some v∧w7.frozen? ⟨w.heap.size+1,0,none⟩=false:=by
 obtain⟨_,_,h3,h4⟩:=h
 have:=(hg.block (w.heap.size+1) (by have:=(ltA h3);simp;omega) (own_ne h4 h3 (fun c' e=>by cases e))).trans (alloc_at h3)
 exact⟨cell_of_row w7 _ 0 _ _ _ this,by simp[World.frozen?,this]⟩
theorem MdAt.append {w W w7:World}{v:Value}{xs:List ByteArray}(h:MdAt w v xs W){y:ByteArray}{o:Obj}(hg:(W.alloc o).grownBy w7 v.ownBlock){v':Value}(ho:OwnS w7 w.heap.size v' (xs++[y])) :
  MdAt w v' (xs++[y]) (w7.setCell ⟨w.heap.size+1,0,none⟩ v'):=by
 obtain⟨h1,h2,h3,h4⟩:=h
 have key:∀ {k:Nat} {c:Array Value},W.heap[k]?=some (.cells c 31 (0,0))→w7.heap[k]?=some (.cells c 31 (0,0)):=fun {k c} hk =>
  (hg.block k (by have:=(ltA hk);simp;omega) (own_ne h4 hk (fun c' e=>by cases e))).trans (alloc_at hk)
 have b7:Below w.heap.size w w7:=(h1.alloc h1.size o).grown hg (by have:=h1.size;simp;omega) (fun j e=>OwnE.ge h4 j e)
 have g3:=key h3
 refine⟨b7.setCell (p:=⟨w.heap.size+1,0,none⟩) (Nat.le_succ _) _,(Below.heap_setCell _ _ _ _ (by show w.heap.size≠w.heap.size+1;omega)).trans (key h2),?_,?_⟩
 ·rw[heap_setCell_same _ g3];rfl
 ·exact World.ownsRow.kept ho (grown_setCell (grown_refl _ _) ⟨w.heap.size+1,0,none⟩ (.inl rfl) _) (.inr (fun e'=>own_ne ho g3 (fun c' e=>by cases e) e'.symm))
theorem MdAt.ret {w W:World}{v:Value}{xs:List ByteArray}(h:MdAt w v xs W):SS (W.setCell ⟨w.heap.size,0,none⟩ v) v xs:=by
 have o1:OwnS (W.setCell ⟨w.heap.size,0,none⟩ v) w.heap.size v xs:=World.ownsRow.kept h.2.2.2 (grown_setCell (grown_refl _ _) ⟨w.heap.size,0,none⟩ (.inl rfl) _) (.inr (fun e'=>own_ne h.2.2.2 h.2.1 (fun c' e=>by cases e) e'.symm))
 exact OwnS.ss o1
set_option maxHeartbeats 4000000 in
set_option maxRecDepth 100000 in
theorem made19_any (n:Int)(hn:I64 n)(w:World) :
  Calls Tryz.prog 12 #[.int .i64 n] w fun e w'=>∃ v,e=.returned (.agg #[v])∧SS w' v (madeQ (madeN n))∧Below w.heap.size w w':=by
 have hr:=pickI_range n (show(0:Int) < 3 by omega)
 have HP:=zh (fun W=>pickQ_any n 3 W hn (by omega) (by omega))
 obtain⟨p,hp⟩:∃ p:Nat,pickI n 3=(p:Int):=⟨(pickI n 3).toNat,by omega⟩
 have hm:madeN n=[4,7,1].getD p 0:=by
  unfold madeN
  rw[hp]
  have:p=0∨p=1∨p=2:=by omega
  rcases this with rfl | rfl | rfl <;> rfl
 have hm7:=madeN_or n
 rw[hp]at HP hr
 have hp3:p < 3:=by omega
 generalize madeN n=m at *
 have HM:=zh hm
 clear hp hm hn hr
 have HA:Hid (MdAt w (.slice none 0 0) [] ((w.alloc (.cells #[.slice none 0 0] 31)).alloc (.cells #[.slice none 0 0] 31))):=zh ⟨(br0.alloc (Nat.le_refl _) _).alloc (by simp) _,at_past w _ _,at_second w _ _,OwnE.nil _ _ _ _⟩
 go_enter Tryz.func12,Tryz.ntmps12
 go_wp2
 go_loopw [4] (fun i wr=>∃(k:Nat) (v:Value),k≤m∧i=.int .i64 k∧Hid (MdAt w v (madeQ k) wr)) (fun i _=>m - (intOf i).toNat)
 case atStart=>exact⟨0,_,by omega,rfl,HA⟩
 case round =>
  obtain⟨k,v,hk,rfl,hA⟩:=hrel
  clear HA
  obtain⟨W2,hW2⟩:∃ W2,W2=wr.alloc (.cells #[.int .i64 4,.int .i64 7,.int .i64 1] 3):=⟨_,rfl⟩
  have HA2:Hid (MdAt w v (madeQ k) W2):=zh (by rw[hW2];exact hA.out.far (br0.alloc (Nat.le_refl _) _))
  have hc:W2.cell? ⟨wr.heap.size,p,none⟩=some (.int .i64 (m:Int)):=by
   have hh:W2.heap[wr.heap.size]?=some (.cells #[.int .i64 4,.int .i64 7,.int .i64 1] 3 (0,0)):=by rw[hW2];exact heap_alloc_new wr _
   rw[cell_of_row W2 _ _ _ _ _ hh,HM.out]
   have:p=0∨p=1∨p=2:=by omega
   rcases this with rfl | rfl | rfl <;> rfl
  have hsz:wr.heap.size < W2.heap.size:=by rw[hW2];simp
  have HW2:=zh hW2
  have hp0:(0:Int)≤(p:Int):=by omega
  have hp3':(p:Int) < 3:=by omega
  clear hW2 hA
  by_cases hlt:k < m
  ·have hltI:(k:Int) < (m:Int):=by omega
   go_upto_region 5 with(go_at_call 54;rw[← HW2.out];(with_reducible refine(HP.out _).mono ?_);rintro e w3 ⟨rfl,hw3⟩;replace hw3:=hw3.symm;subst hw3)
   have HE:=zh (fun W=>keyQ_any k (by omega) W)
   have HT:Hid (madeQ (k+1)=madeQ k++[keyQ k]):=zh (by unfold madeQ;rw[List.range_succ,List.map_append];rfl)
   have hXl:(madeQ k).length≤12:=by rw[madeQ_len];omega
   obtain⟨XS,hXS⟩:∃ XS,XS=madeQ k:=⟨_,rfl⟩
   rw[← hXS]at HA2 HT hXl
   generalize keyQ k=E at *
   have HCL:Hid ((scells XS).length=XS.length):=zh (by unfold scells;rw[List.length_map])
   obtain⟨i0,hi0,hz0,hz1,hz2⟩:=info_parts infoStr
   have c1:W2.cell? ⟨w.heap.size+1,0,none⟩=some v:=cell_of_row W2 _ 0 _ _ _ HA2.out.2.2.1
   have hsw:w.heap.size+1 < W2.heap.size:=(ltA HA2.out.2.2.1)
   clear hc hsz HW2 hXS
   go_region_law (first | (go_simp;go_at_call 25;refine(HE.out _).mono ?_;rintro e w5 ⟨rfl,hb5⟩;have HA5:=zh (HA2.out.far (undrew hb5));have hs5:w.heap.size+1 < w5.heap.size:=(ltA HA5.out.2.2.1);have c5:w5.cell? ⟨w.heap.size+1,0,none⟩=some v:=cell_of_row w5 _ 0 _ _ _ HA5.out.2.2.1;have HOA:=zh (OwnE.alloc HA5.out.2.2.2 (.cells #[.string E] 9));have HNW:=zh (World.news_of_block (w:=w5.alloc (.cells #[.string E] 9)) (heap_alloc_new w5 (.cells [Value.string E].toArray 9)));have HSZ:=zh (size_al w5 (.cells #[.string E] 9) HA5.out.1.size);clear hb5) | (refine step_append_lies _ rfl (.tmp 15) (.tmp 18) 29 rfl w.heap.size 9 i0 _ 1 16 (by kernel_rfl) hi0 hz0 hz1 hz2 rfl (by decide) v (scells XS).length (scells XS).flatten rfl HOA.out ⟨w5.heap.size,0,none⟩ 1 1 _ rfl rfl HNW.out (fun u hu=>by simp at hu;subst hu;rfl) (by decide) (by rw[HCL.out];unfold maxLen;omega) (by rw[HCL.out];omega) HSZ.out _ rfl ?_;intro g7 cap7 w7 hown7 hgrow7 hat7 hlt7;obtain⟨u4,uf⟩:=HA5.out.at7 hgrow7;have HSN:=zh (HA5.out.append hgrow7 (ownS_snoc hown7));clear hown7 hgrow7 hat7 hlt7))
   all_goals
    clear u4 uf
    go_wp2
    go_roundw
    case rel =>
     refine⟨k+1,.slice (some ⟨g7,0,none⟩) ((scells XS).length+1) cap7,by omega,by go_num,?_⟩
     rw[HT.out]
     exact HSN
    case measure=>simp[intOf];omega
  ·obtain rfl:k=m:=by omega
   obtain⟨va,vc,hv⟩:=OwnE.form HA2.out.2.2.2
   subst hv
   have z0:=cell_of_row W2 _ 0 _ _ _ HA2.out.2.1
   have c0:=cell_of_row W2 _ 0 _ _ _ HA2.out.2.2.1
   have zf:∀ j,W2.frozen? ⟨w.heap.size,j,none⟩=false:=fun j=>by unfold World.frozen?;rw[HA2.out.2.1];simp
   generalize (scells (madeQ k)).length=L at *
   go_wp2_with (go_at_call 54;rw[← HW2.out];(with_reducible refine(HP.out _).mono ?_);rintro e w3 ⟨rfl,hw3⟩;replace hw3:=hw3.symm;subst hw3)
   refine bodyPost_ret (results_cell_row rfl _ _ w.heap.size 31 #[.slice va L vc] (0,0) _ rfl (heap_setCell_same (i:=0) _ HA2.out.2.1) Tryz.underlying31 rfl infoCommittee) rfl ⟨_,rfl,HA2.out.ret,HA2.out.1.setCell (p:=⟨w.heap.size,0,none⟩) (Nat.le_refl _) _⟩
theorem castL_vS (i:Nat)(hi:i < 4)(v:ByteArray)(hv:v.size=32):castL i 55 0 v=vS (madeQ 4) v i:=by
 have e:keyQ i=(madeQ 4).getD i ⟨#[]⟩:=(madeQ_get hi).symm
 unfold castL
 rw[e,s_cast (madeQ_valid (.inr (.inl rfl))) (madeQ_len 4) (valQ_size 1) (valQ_size 0) val10 i v hi hv [] rfl (by rw[← e];rfl)]
 rfl
theorem five_votes {w:World}{b:Nat}{v1 v2 v3 v4 v5:VoteP}(h:w.heap[b]?=some (.cells (vcells v1++vcells v2++vcells v3++vcells v4++vcells v5).toArray 27 (0,0))):VS w (.slice (some ⟨b,0,none⟩) 5 5) [v1,v2,v3,v4,v5]:=by
 refine⟨_,5,rfl,Nat.le_refl _,by decide,.inr ⟨b,0,rfl,(ltA h),fun i cs hi j u hj=>?_⟩⟩
 have hc:∀ k x,(vcells v1++vcells v2++vcells v3++vcells v4++vcells v5)[k]?=some x→w.cell? ⟨b,k,none⟩=some x:=fun k x hx=>by
  rw[cell_of_row w _ k _ _ _ h,List.getElem?_toArray]
  exact hx
 have hj5:j < cs.length:=(List.getElem?_eq_some_iff.1 hj).1
 match i,hi with
 | 0,hi=>cases hi;match j,hj with
  | 0,hj=>exact hc 0 _ hj
  | 1,hj=>exact hc 1 _ hj
  | 2,hj=>exact hc 2 _ hj
  | 3,hj=>exact hc 3 _ hj
  | 4,hj=>exact hc 4 _ hj
 | 1,hi=>cases hi;match j,hj with
  | 0,hj=>exact hc 5 _ hj
  | 1,hj=>exact hc 6 _ hj
  | 2,hj=>exact hc 7 _ hj
  | 3,hj=>exact hc 8 _ hj
  | 4,hj=>exact hc 9 _ hj
 | 2,hi=>cases hi;match j,hj with
  | 0,hj=>exact hc 10 _ hj
  | 1,hj=>exact hc 11 _ hj
  | 2,hj=>exact hc 12 _ hj
  | 3,hj=>exact hc 13 _ hj
  | 4,hj=>exact hc 14 _ hj
 | 3,hi=>cases hi;match j,hj with
  | 0,hj=>exact hc 15 _ hj
  | 1,hj=>exact hc 16 _ hj
  | 2,hj=>exact hc 17 _ hj
  | 3,hj=>exact hc 18 _ hj
  | 4,hj=>exact hc 19 _ hj
 | 4,hi=>cases hi;match j,hj with
  | 0,hj=>exact hc 20 _ hj
  | 1,hj=>exact hc 21 _ hj
  | 2,hj=>exact hc 22 _ hj
  | 3,hj=>exact hc 23 _ hj
  | 4,hj=>exact hc 24 _ hj
theorem three_votes {w:World}{b:Nat}{v1 v2 v3:VoteP}(h:w.heap[b]?=some (.cells (vcells v1++vcells v2++vcells v3).toArray 27 (0,0))):VS w (.slice (some ⟨b,0,none⟩) 3 3) [v1,v2,v3]:=by
 refine⟨_,3,rfl,Nat.le_refl _,by decide,.inr ⟨b,0,rfl,(ltA h),fun i cs hi j u hj=>?_⟩⟩
 have hc:∀ k x,(vcells v1++vcells v2++vcells v3)[k]?=some x→w.cell? ⟨b,k,none⟩=some x:=fun k x hx=>by
  rw[cell_of_row w _ k _ _ _ h,List.getElem?_toArray]
  exact hx
 have hj5:j < cs.length:=(List.getElem?_eq_some_iff.1 hj).1
 match i,hi with
 | 0,hi=>cases hi;match j,hj with
  | 0,hj=>exact hc 0 _ hj
  | 1,hj=>exact hc 1 _ hj
  | 2,hj=>exact hc 2 _ hj
  | 3,hj=>exact hc 3 _ hj
  | 4,hj=>exact hc 4 _ hj
 | 1,hi=>cases hi;match j,hj with
  | 0,hj=>exact hc 5 _ hj
  | 1,hj=>exact hc 6 _ hj
  | 2,hj=>exact hc 7 _ hj
  | 3,hj=>exact hc 8 _ hj
  | 4,hj=>exact hc 9 _ hj
 | 2,hi=>cases hi;match j,hj with
  | 0,hj=>exact hc 10 _ hj
  | 1,hj=>exact hc 11 _ hj
  | 2,hj=>exact hc 12 _ hj
  | 3,hj=>exact hc 13 _ hj
  | 4,hj=>exact hc 14 _ hj
theorem s_forged:genuineV (madeQ 4) ⟨0,55,0,valQ 0,(vS (madeQ 4) (valQ 1) 0).sl⟩=false:=by decide +kernel
end Go.Proofs.YtggdcnjaofflbaaGreatDoor
