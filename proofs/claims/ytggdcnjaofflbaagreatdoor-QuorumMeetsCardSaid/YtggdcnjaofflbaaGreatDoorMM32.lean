/- Walk of the law: sane, from region 14 on. The conditions: what the examples' slices read as, the tables of constants. -/
import Derived.Test.YtggdcnjaofflbaaGreatDoorMM31
namespace Go.Proofs.YtggdcnjaofflbaaGreatDoor
open Go.RowKit Go.BigFrame
theorem two_tallies {w:World}{b:Nat}{x y:ByteArray}{m n:Nat}(h:w.heap[b]?=some (.cells #[.string x,.int .i64 (m:Int),.string y,.int .i64 (n:Int)] 68 (0,0))):TS w (.slice (some ⟨b,0,none⟩) 2 2) [(x,m),(y,n)]:=by
 refine⟨_,2,rfl,Nat.le_refl _,by decide,.inr ⟨b,0,rfl,(ltA h),fun i cs hi j u hj=>?_⟩⟩
 match i,hi with
 | 0,hi=>cases hi;match j,hj with
  | 0,hj=>cases hj;exact cell_of_row w b 0 _ _ _ h
  | 1,hj=>cases hj;exact cell_of_row w b 1 _ _ _ h
 | 1,hi=>cases hi;match j,hj with
  | 0,hj=>cases hj;exact cell_of_row w b 2 _ _ _ h
  | 1,hj=>cases hj;exact cell_of_row w b 3 _ _ _ h
theorem DAt.ten {w:World}{b o:Nat}{d:VoteP × VoteP}(h:DAt w b o d):w.cell? ⟨b,o,none⟩=some (.int .i64 d.1.car)∧w.cell? ⟨b,o+1,none⟩=some (.int .i64 d.1.num)∧w.cell? ⟨b,o+2,none⟩=some (.int .i64 d.1.stp)∧w.cell? ⟨b,o+3,none⟩=some (.string d.1.val)∧w.cell? ⟨b,o+4,none⟩=some (.string d.1.sl) ∧
  w.cell? ⟨b,o+5,none⟩=some (.int .i64 d.2.car)∧w.cell? ⟨b,o+6,none⟩=some (.int .i64 d.2.num)∧w.cell? ⟨b,o+7,none⟩=some (.int .i64 d.2.stp)∧w.cell? ⟨b,o+8,none⟩=some (.string d.2.val)∧w.cell? ⟨b,o+9,none⟩=some (.string d.2.sl) :=
 let ⟨⟨a0,a1,a2,a3,a4⟩,b0,b1,b2,b3,b4⟩:=h
 ⟨a0,a1,a2,a3,a4,b0,b1,b2,b3,b4⟩
theorem DAt.keep {B:Nat}{w w':World}{b o:Nat}{d:VoteP × VoteP}(h:DAt w b o d)(hb:Below B w w')(hlt:b < B):DAt w' b o d:=⟨h.1.keep hb hlt,h.2.keep hb hlt⟩
theorem eqlDouble2 (x y:VoteP × VoteP)(w:World):(binOp .eql 45 (dagg2 x) (dagg2 y)).run Tryz.prog w=.ok (.bool (decide (x=y))) w:=by
 have h:=eqlDouble x y w
 unfold dagg2 at *
 rw[run_eql_struct,h]
 rfl
def rtQS (c:Code):Code:=rtQ (rtQ (rtQ (rtQ (rtQ (rtQ (rtQ (rtQ (rtQ (rtQ (rtQ (rtQ (rtQ (rtQ (c))))))))))))))
theorem tailQS {c L:Code}(h:∃ a0 a1 a2 a3 a4 a5 a6 a7 a8 a9 a10 a11 a12 a13:Code,Tryz.f11.body=some (a0.seq (a1.seq (a2.seq (a3.seq (a4.seq (a5.seq (a6.seq (a7.seq (a8.seq (a9.seq (a10.seq (a11.seq (a12.seq (a13.seq (c))))))))))))))))(hL:Tryz.f11.body.map rtQS=some L:=by rfl):c=L:=by
 obtain⟨a0,a1,a2,a3,a4,a5,a6,a7,a8,a9,a10,a11,a12,a13,e⟩:=h
 rw[e]at hL
 exact Option.some.inj hL
set_option maxHeartbeats 16000000 in
set_option maxRecDepth 100000 in
theorem sane_tail {w w13:World}(HE:Hid (QEnv w13))(HBW:Hid (Below w.heap.size w w13))(b1 bo:Nat)(ka:Option Addr)(kc:Nat)(x y:ByteArray)(oc on1 os:Int)(ov ol:ByteArray)(vpool vp vd vb:Value)(HX:Hid (x=valQ 1))(HY:Hid (y=valQ 0))
  (H1:Hid (w13.heap[b1]?=some (.cells #[.slice ka 4 kc] 31 (0,0)))) (H2:Hid (w13.heap[b1+1]?=some (.cells #[.int .i64 55,.int .i64 0] 25 (0,0)))) (H3:Hid (w13.heap[bo]?=some (.cells #[.int .i64 oc,.int .i64 on1,.int .i64 os,.string ov,.string ol] 27 (0,0))))
  (HO:Hid ((⟨oc,on1,os,ov,ol⟩:VoteP)=vS (madeQ 4) x 0)) (HKS:Hid (SS w13 (.slice ka 4 kc) (madeQ 4))) (HPOOL:Hid (VS w13 vpool (poolS (madeQ 4) x y))) (HVP:Hid (VS w13 vp [vS (madeQ 4) x 0,vS (madeQ 4) x 1,vS (madeQ 4) x 2]))
  (HVD:Hid (DS w13 vd [(vS (madeQ 4) x 2,vS (madeQ 4) y 2)])) (HVB:Hid (DS w13 vb [(vS (madeQ 4) x 1,vS (madeQ 4) y 1),(vS (madeQ 4) x 2,vS (madeQ 4) y 2)])) (u0 u8 u12 u14 u21 u22 u23 u24 u25 u26 u27 u28 u29 u30 u31 u32 u33 u34 u35 u36 u37 u38 u39 u40 u41 u42 u43 u44 u45 u46 u47 u48 u49 u50 u51 u52 u53 u54 u55 u56 u57 u58 u59 u60 u61 u62 u63 u64 u65 u66 u67 u68 u69 u70 u71 u72 u73 u74 u75 u76 u77 u78 u79 u80 u81 u82 u83 u84 u85 u86 u87 u88 u89 u90 u91 u92 u93 u94 u95 u96 u97 u98 u99 u100 u101 u102 u103 u104 u105 u106 u107 u108 u109 u110 u111 u112 u113 u114 u115 u116 u117 u118 u119 u120 u121 u122 u123 u124 u125 u126 u127 u128 u129 u130 u131 u132 u133 u134 u135 u136 u137 u138 u139 u140 u141 u142 u143 u144 u145 u146 u147 u148 u149 u150 u151 u152 u153 u154 u155 u156 u157 u158 u159 u160 u161 u162 u163 u164 u165 u166 u167 u168 u169 u170 u171 u172 u173 u174 u175 u176 u177 u178 u179 u180 u181 u182 u183 u184 u185 u186 u187 u188 u189 u190 u191 u192 u193 u194 u195 u196 u197 u198 u199 u200 u201 u202 u203 u204 u205 u206 u207 u208 u209 u210 u211 u212 u213 u214 u215 u216 u217 u218 u219 u220 u221 u222 u223 u224 u225 u226 u227 u228 u229 u230 u231 u232 u233 u234 u235 u236 u237 u238 u239 u240 u241 u242 u243 u244 u245 u246 u247 u248 u249 u250 u251 u252 u253 u254 u255 u256 u257 u258 u259 u260 u261 u262 u263 u264 u265 u266 u267 u268 u269 u270 u271 u272 u273 u274 u275 u276 u277 u278 u279 u280 u281 u282 u283 u284 u285 u286 u287 u288 u289 u290 u291 u292 u293 u294 u295 u296 u297 u298 u299 u300 u301 u302 u303 u304 u305 u306 u307 u308 u309 u310 u311 u312:Value) :
  ∃ c:Code,(∃ a0 a1 a2 a3 a4 a5 a6 a7 a8 a9 a10 a11 a12 a13:Code,Tryz.f11.body=some (a0.seq (a1.seq (a2.seq (a3.seq (a4.seq (a5.seq (a6.seq (a7.seq (a8.seq (a9.seq (a10.seq (a11.seq (a12.seq (a13.seq (c))))))))))))))))∧c.wp Tryz.prog (bodyPost Tryz.prog Tryz.f11 fun e w'=>e=.returned (.bool true)∧Below w.heap.size w w') { tmps:=#[u0,.pointer (some ⟨b1,0,none⟩),.pointer (some ⟨b1+1,0,none⟩),.string x,.string y,vpool,vp,.bool true,u8,.bool false,.string x,.bool true,u12,.bool false,u14,.int .i64 190,.pointer (some ⟨bo,0,none⟩),.int .i64 0,vd,vb,.int .i64 0,u21,u22,u23,u24,u25,u26,u27,u28,u29,u30,u31,u32,u33,u34,u35,u36,u37,u38,u39,u40,u41,u42,u43,u44,u45,u46,u47,u48,u49,u50,u51,u52,u53,u54,u55,u56,u57,u58,u59,u60,u61,u62,u63,u64,u65,u66,u67,u68,u69,u70,u71,u72,u73,u74,u75,u76,u77,u78,u79,u80,u81,u82,u83,u84,u85,u86,u87,u88,u89,u90,u91,u92,u93,u94,u95,u96,u97,u98,u99,u100,u101,u102,u103,u104,u105,u106,u107,u108,u109,u110,u111,u112,u113,u114,u115,u116,u117,u118,u119,u120,u121,u122,u123,u124,u125,u126,u127,u128,u129,u130,u131,u132,u133,u134,u135,u136,u137,u138,u139,u140,u141,u142,u143,u144,u145,u146,u147,u148,u149,u150,u151,u152,u153,u154,u155,u156,u157,u158,u159,u160,u161,u162,u163,u164,u165,u166,u167,u168,u169,u170,u171,u172,u173,u174,u175,u176,u177,u178,u179,u180,u181,u182,u183,u184,u185,u186,u187,u188,u189,u190,u191,u192,u193,u194,u195,u196,u197,u198,u199,u200,u201,u202,u203,u204,u205,u206,u207,u208,u209,u210,u211,u212,u213,u214,u215,u216,u217,u218,u219,u220,u221,u222,u223,u224,u225,u226,u227,u228,u229,u230,u231,u232,u233,u234,u235,u236,u237,u238,u239,u240,u241,u242,u243,u244,u245,u246,u247,u248,u249,u250,u251,u252,u253,u254,u255,u256,u257,u258,u259,u260,u261,u262,u263,u264,u265,u266,u267,u268,u269,u270,u271,u272,u273,u274,u275,u276,u277,u278,u279,u280,u281,u282,u283,u284,u285,u286,u287,u288,u289,u290,u291,u292,u293,u294,u295,u296,u297,u298,u299,u300,u301,u302,u303,u304,u305,u306,u307,u308,u309,u310,u311,u312],defers:=[] } w13:=by
 refine⟨_,⟨_,_,_,_,_,_,_,_,_,_,_,_,_,_,rfl⟩,?_⟩
 have hk:validC (madeQ 4)=true:=madeQ_valid (.inr (.inl rfl))
 have h4:(madeQ 4).length=4:=madeQ_len 4
 have hlt:x.toList < y.toList:=by rw[HX.out,HY.out];exact val10
 have s1:x.size=32:=by rw[HX.out];exact valQ_size 1
 have s0:y.size=32:=by rw[HY.out];exact valQ_size 0
 have hf:formedV ⟨oc,on1,os,ov,ol⟩=true:=by rw[HO.out];exact s_formed hk h4 s1 s0 hlt 0 x (by omega) s1
 obtain⟨S,hS⟩:∃ S,S=encV ⟨oc,on1,os,ov,ol⟩:=⟨_,rfl⟩
 have HEN:Hid (∀ W,Calls Tryz.prog 19 #[.agg #[.int .i64 oc,.int .i64 on1,.int .i64 os,.string ov,.string ol]] W fun e w'=>e=.returned (.tuple #[.string S,.int .i64 0])∧Below W.heap.size W w'):=zh fun W=>by rw[hS];exact enc_yes _ hf W
 have hSz:S.size≤1000:=by
  have h5:=formed_facts hf
  have h6:=voteC_le (v:=⟨oc,on1,os,ov,ol⟩) h5.2.2.2.1
  have h7:ol.size=32:=h5.2.2.2.2
  rw[hS]
  show(voteC ⟨oc,on1,os,ov,ol⟩++ol).size≤1000
  rw[ByteArray.size_append]
  omega
 have HD1:Hid (∀ W,Calls Tryz.prog 28 #[.string S] W fun e w'=>e=.returned (.tuple #[.agg #[.int .i64 oc,.int .i64 on1,.int .i64 os,.string ov,.string ol],.int .i64 0])∧Below W.heap.size W w'):=zh fun W=>by
  have h:=decode_any S (by omega) W
  rw[hS,decode_enc hf]at h
  rw[hS]
  exact h
 have HD2:Hid (∀ W,Calls Tryz.prog 28 #[.string (S++⟨#[120]⟩)] W fun e w'=>e=.returned (.tuple #[.agg #[.int .i64 0,.int .i64 0,.int .i64 0,.string ⟨#[]⟩,.string ⟨#[]⟩],.int .i64 190])∧Below W.heap.size W w'):=zh fun W=>by
  have h:=decode_any (S++⟨#[120]⟩) (by rw[ByteArray.size_append];show S.size+1≤_;omega) W
  rw[show decodeV (S++⟨#[120]⟩)=none from by rw[hS];exact s_decode_x hf 120]at h
  exact h
 have hcat:¬ 9223372036854775807 < S.size+1:=by omega
 clear hS hf
 obtain⟨o0,o1,o2,o3,o4⟩:=vcellsAt H3.out
 go_upto_region 15 with(go_at_call 19;refine(HEN.out _).mono ?_;rintro e w14 ⟨rfl,hb14⟩)
 clear o0 o1 o2 o3 o4
 have HB14:=zh hb14
 clear hb14
 have HA:=zh (fun W (hW:Below w13.heap.size w13 W)=>And.intro (cell_of_row W _ 0 _ _ _ ((hW.block _ (ltA H1.out)).trans H1.out)) (And.intro (two_at ((hW.block _ (ltA H2.out)).trans H2.out)) (vcellsAt ((hW.block _ (ltA H3.out)).trans H3.out))))
 go_upto_region 16 with(go_at_call 28;(with_reducible refine(HD1.out _).mono ?_);rintro e w15 ⟨rfl,hb15⟩)
 have HB15:=zh (q_next HB14.out hb15)
 clear hb15
 obtain⟨w16,hw16⟩:∃ W,W=w15.alloc (.cells #[.int .i64 oc,.int .i64 on1,.int .i64 os,.string ov,.string ol] 27):=⟨_,rfl⟩
 have HV_w16:Hid (w16.heap[w15.heap.size]?=some (.cells #[.int .i64 oc,.int .i64 on1,.int .i64 os,.string ov,.string ol] 27 (0,0))):=zh (by rw[hw16];exact heap_alloc_new w15 _)
 have HS_w16:Hid (Below w15.heap.size w15 w16):=zh (by rw[hw16];exact br0.alloc (Nat.le_refl _) _)
 have HB_w16:=zh (q_next HB15.out HS_w16.out)
 rw[← hw16]
 obtain⟨b16,hb16⟩:∃ b,b=w15.heap.size:=⟨_,rfl⟩
 rw[← hb16]at HV_w16 ⊢
 clear hw16 hb16
 go_upto_region 17 with(go_at_call 28;(with_reducible refine(HD2.out _).mono ?_);rintro e w17 ⟨rfl,hb17⟩)
 have HB17:=zh (q_next HB_w16.out hb17)
 have HV17:=zh ((hb17.block _ (ltA HV_w16.out)).trans HV_w16.out)
 clear hb17
 obtain⟨w18,hw18⟩:∃ W,W=w17.alloc (.cells #[.int .i64 0,.int .i64 0,.int .i64 0,.string ⟨#[]⟩,.string ⟨#[]⟩] 27):=⟨_,rfl⟩
 have HV_w18:Hid (w18.heap[w17.heap.size]?=some (.cells #[.int .i64 0,.int .i64 0,.int .i64 0,.string ⟨#[]⟩,.string ⟨#[]⟩] 27 (0,0))):=zh (by rw[hw18];exact heap_alloc_new w17 _)
 have HS_w18:Hid (Below w17.heap.size w17 w18):=zh (by rw[hw18];exact br0.alloc (Nat.le_refl _) _)
 have HB_w18:=zh (q_next HB17.out HS_w18.out)
 rw[← hw18]
 obtain⟨b18,hb18⟩:∃ b,b=w17.heap.size:=⟨_,rfl⟩
 rw[← hb18]at HV_w18 ⊢
 clear hw18 hb18
 have HV18:=zh ((HS_w18.out.block _ (ltA HV17.out)).trans HV17.out)
 clear HV17 HV_w16 HD1 HD2 HEN hcat
 obtain⟨da,dc,hvd,-,-,hd3⟩:=HVD.out.opened
 obtain⟨ba,bc,hvb,-,-,hb3⟩:=HVB.out.opened
 simp only[List.length_cons,List.length_nil,Nat.reduceAdd]at hvd hvb
 subst hvd hvb
 have HD3:=zh hd3
 have HB3:=zh hb3
 clear hd3 hb3
 go_upto_region 19 with fail
 have HL:=zh HO.out
 have HB18:=zh HB_w18.out
 have HA2:=zh (fun W (hW:Below w18.heap.size w18 W)=>And.intro (HA.out W (q_next HB18.out hW)) (vcellsAt ((hW.block _ (ltA HV18.out)).trans HV18.out)))
 have HG1:=zh (qgen_w HE.out HKS.out ⟨oc,on1,os,ov,ol⟩ true (by rw[HO.out];exact s_genuine hk h4 s1 s0 hlt))
 have HG2:=zh (qgen_w HE.out HKS.out ⟨0,55,0,y,ol⟩ false (by
  have e:ol=(vS (madeQ 4) (valQ 1) 0).sl:=by rw[← HX.out];exact congrArg VoteP.sl HO.out
  rw[e,HY.out]
  exact s_forged))
 have HVA:Hid (∀ W,Below w13.heap.size w13 W→Calls Tryz.prog 53 #[.agg #[.slice ka 4 kc]] W fun e w'=>e=.returned (.bool true)∧Below W.heap.size W w'):=zh (fun W hW=>by
  have h:=qvalid_any (HKS.out.below hW)
  rw[hk]at h
  exact h)
 have HVE:Hid (∀ W,Calls Tryz.prog 53 #[.agg #[.slice none 0 0]] W fun e w'=>e=.returned (.bool false)∧Below W.heap.size W w'):=zh (fun W=>by
  have h:=qvalid_any (show SS W (.slice none 0 0) []from SliceAt.nil W 1)
  rw[s_none]at h
  exact h)
 have hno:=neqVote ⟨oc,on1,os,ov,ol⟩ ⟨oc,on1,os,ov,ol⟩
 rw[decide_eq_true rfl]at hno
 simp only[vagg,Bool.not_true]at HG1 HG2 hno
 obtain⟨⟨c0,⟨t0,t1⟩,o0,o1,o2,o3,o4⟩,-⟩:=HA2.out w18 br0
 go_upto_region 21 with(first | (go_at_call 21;(with_reducible refine(HG1.out _ HB18.out).mono ?_);rintro e w19 ⟨rfl,hb19⟩;have HB19:=zh hb19;clear c0 t0 t1 o0 o1 o2 o3 o4;obtain⟨⟨c0,⟨t0,t1⟩,o0,o1,o2,o3,o4⟩,-⟩:=HA2.out w19 HB19.out;clear hb19) | (go_at_call 21;(with_reducible refine(HG2.out _ (q_next HB18.out HB19.out)).mono ?_);rintro e w20 ⟨rfl,hb20⟩;have HB20:=zh (q_next HB19.out hb20);clear c0 t0 t1 o0 o1 o2 o3 o4;obtain⟨⟨c0,⟨t0,t1⟩,o0,o1,o2,o3,o4⟩,e0,e1,e2,e3,e4⟩:=HA2.out w20 HB20.out;clear hb20) | (go_at_call 53;(with_reducible refine(HVA.out _ (q_next HB18.out HB20.out)).mono ?_);rintro e w21 ⟨rfl,hbw21⟩;have HB21:=zh (q_next HB20.out hbw21);clear c0 t0 t1 o0 o1 o2 o3 o4;clear e0 e1 e2 e3 e4;obtain⟨⟨c0,⟨t0,t1⟩,o0,o1,o2,o3,o4⟩,e0,e1,e2,e3,e4⟩:=HA2.out w21 HB21.out;clear hbw21) | (go_at_call 53;(with_reducible refine(HVE.out _).mono ?_);rintro e w22 ⟨rfl,hbw22⟩;have HB22:=zh (q_next HB21.out hbw22);clear c0 t0 t1 o0 o1 o2 o3 o4;clear e0 e1 e2 e3 e4;obtain⟨⟨c0,⟨t0,t1⟩,o0,o1,o2,o3,o4⟩,e0,e1,e2,e3,e4⟩:=HA2.out w22 HB22.out;clear hbw22))
 have HBD:=zh (q_next HB18.out HB22.out)
 clear HB18 HB19 HB20 HB21 HB_w18 HB_w16 HS_w16 HS_w18 HB14 HB15 HB17 HV_w18 HV18 HG1 HG2 HVA HVE hno c0 t0 t1 o0 o1 o2 o3 o4 e0 e1 e2 e3 e4 HA2
 obtain⟨L1,hL1⟩:∃ L,(⟨1,55,0,x,L⟩:VoteP)=vS (madeQ 4) x 1:=⟨_,rfl⟩
 obtain⟨L2,hL2⟩:∃ L,(⟨2,55,0,x,L⟩:VoteP)=vS (madeQ 4) x 2:=⟨_,rfl⟩
 obtain⟨M1,hM1⟩:∃ L,(⟨1,55,0,y,L⟩:VoteP)=vS (madeQ 4) y 1:=⟨_,rfl⟩
 obtain⟨M2,hM2⟩:∃ L,(⟨2,55,0,y,L⟩:VoteP)=vS (madeQ 4) y 2:=⟨_,rfl⟩
 have HVP2:=HVP
 rw[← hL1,← hL2,← HO.out]at HVP2
 rw[← hL2,← hM2]at HD3
 rw[← hL2,← hM2,← hL1,← hM1]at HB3
 have HE1:=zh hL1
 have HE2:=zh hL2
 have HE4:=zh hM2
 clear hL1 hL2 hM1 hM2
 have HCA:Hid (∀(i:Nat) (v:ByteArray) (z:VoteP),i < 4→v.size=32→z=vS (madeQ 4) v i→∀ W,Below w13.heap.size w13 W→Calls Tryz.prog 43 #[.int .i64 i,.agg #[.int .i64 55,.int .i64 0],.string v] W fun e w'=>e=.returned (vagg z)∧Below W.heap.size W w'):=zh fun i v z hi hv hz W hW=>by
  have hE:=HE.out.step hW
  rw[hz,← castL_vS i hi v hv]
  exact castL_any i (by omega) 55 0 v W hE.env hE.round
 have HC0:=zh (HCA.out 0 x ⟨oc,on1,os,ov,ol⟩ (by omega) s1 HO.out)
 have HC1:=zh (HCA.out 1 x ⟨1,55,0,x,L1⟩ (by omega) s1 HE1.out)
 have HC2:=zh (HCA.out 2 x ⟨2,55,0,x,L2⟩ (by omega) s1 HE2.out)
 have HC3:=zh (HCA.out 2 y ⟨2,55,0,y,M2⟩ (by omega) s0 HE4.out)
 have HK1:=zh (qcheck_w HE.out HKS.out HVP.out 55 0 x true (s_check_x hk h4 s1 s0 hlt))
 have HK2:=zh (qcheck_w HE.out HKS.out HVP.out 55 0 y false (s_check_y hk h4 s1 s0 hlt))
 simp only[vagg,show((0:Nat):Int)=0 from rfl,show((1:Nat):Int)=1 from rfl,show((2:Nat):Int)=2 from rfl]at HC0 HC1 HC2 HC3
 refine wp_region_noPanic ?_
 refine wp_region_lexB [.q 0,.q 1,.q 2,.q 4,.q 5,.q 7,.q 8,.b 3,.b 6,.b 9,.an 10,.co 10,.b 11,.q 12,.q 13,.q 14,.q 15,.q 16,.b 17,.q 18,.q 19,.q 20,.q 21,.q 22,.q 23,.b 24,.q 25,.q 26,.q 27] (by kernel_rfl) (by kernel_rfl) (fun _ _ _ _ h=>h) ?_
 iterate 7(refine wpFl_qL (v:=?_) rfl (Or.inl ⟨by rfl,?_⟩) ?_;rotate_left;(focus(intro w' hSw;obtain⟨c0,⟨t0,t1⟩,-⟩:=HA.out w' (q_next HBD.out hSw);go_simp;(try with_reducible rfl);done));simp only[Act.put,zzA,zzB,zzC])
 refine wpFl_bL rfl (fun waa hnaa hsaa K hK=>?_)
 go_simp
 go_at_call 43
 (with_reducible refine(HC0.out _ (q_next HBD.out hsaa)).mono ?_)
 rintro e wba ⟨rfl,hba⟩
 refine hK.out _ _ (q_next hsaa hba) (Keeps.below hba) ?_
 clear hK K hnaa hsaa
 refine wpFl_bL rfl (fun wab hnab hsab K hK=>?_)
 go_simp
 go_at_call 43
 (with_reducible refine(HC1.out _ (q_next HBD.out hsab)).mono ?_)
 rintro e wbb ⟨rfl,hbb⟩
 refine hK.out _ _ (q_next hsab hbb) (Keeps.below hbb) ?_
 clear hK K hnab hsab
 refine wpFl_bL rfl (fun wac hnac hsac K hK=>?_)
 go_simp
 go_at_call 43
 (with_reducible refine(HC2.out _ (q_next HBD.out hsac)).mono ?_)
 rintro e wbc ⟨rfl,hbc⟩
 refine hK.out _ _ (q_next hsac hbc) (Keeps.below hbc) ?_
 clear hK K hnac hsac
 refine wpFl_anL rfl (.cells #[.int .i64 oc,.int .i64 on1,.int .i64 os,.string ov,.string ol,.int .i64 1,.int .i64 55,.int .i64 0,.string x,.string L1,.int .i64 2,.int .i64 55,.int .i64 0,.string x,.string L2] 27 (0,0)) (fun n=>.slice (some ⟨n,0,none⟩) 3 3) ⟨by rfl,fun w'=>?_⟩ ?_
 focus(go_simp;done)
 refine wpFl_coL rfl (.cells #[.int .i64 oc,.int .i64 on1,.int .i64 os,.string ov,.string ol,.int .i64 1,.int .i64 55,.int .i64 0,.string x,.string L1,.int .i64 2,.int .i64 55,.int .i64 0,.string x,.string L2] 27 (0,0)) (fun n=>.slice (some ⟨n,0,none⟩) 3 3) (by rfl) (N':=[]) (by rfl) (fun b3 w23 hn_w23 hs_w23 hb_b3 hz_b3=>?_)
 simp only[Act.put,zzA,zzB,zzC]
 refine wpFl_bL rfl (fun wad hnad hsad K hK=>?_)
 have HS3:=zh (sameV_any (HVP2.out.below (q_next HBD.out hsad)) (three_votes (v1:=⟨oc,on1,os,ov,ol⟩) (v2:=⟨1,55,0,x,L1⟩) (v3:=⟨2,55,0,x,L2⟩) ((hnad.block _ (ltA hz_b3)).trans hz_b3)))
 rw[decide_eq_true rfl]at HS3
 go_simp
 go_at_call 49
 (with_reducible refine HS3.out.mono ?_)
 rintro e wbd ⟨rfl,hbd⟩
 refine hK.out _ _ (q_next hsad hbd) (Keeps.below hbd) ?_
 clear hK K hnad hsad
 iterate 5(refine wpFl_qL (v:=?_) rfl (Or.inl ⟨by rfl,?_⟩) ?_;rotate_left;(focus(intro w' hSw;obtain⟨c0,⟨t0,t1⟩,-⟩:=HA.out w' (q_next HBD.out hSw);go_simp;(try with_reducible rfl);done));simp only[Act.put,zzA,zzB,zzC])
 refine wpFl_bL rfl (fun wae hnae hsae K hK=>?_)
 go_simp
 go_at_call 39
 (with_reducible refine(HK1.out _ (q_next HBD.out hsae)).mono ?_)
 rintro e wbe ⟨rfl,hbe⟩
 refine hK.out _ _ (q_next hsae hbe) (Keeps.below hbe) ?_
 clear hK K hnae hsae
 iterate 6(refine wpFl_qL (v:=?_) rfl (Or.inl ⟨by rfl,?_⟩) ?_;rotate_left;(focus(intro w' hSw;obtain⟨c0,⟨t0,t1⟩,-⟩:=HA.out w' (q_next HBD.out hSw);go_simp;(try with_reducible rfl);done));simp only[Act.put,zzA,zzB,zzC])
 refine wpFl_bL rfl (fun waf hnaf hsaf K hK=>?_)
 go_simp
 go_at_call 39
 (with_reducible refine(HK2.out _ (q_next HBD.out hsaf)).mono ?_)
 rintro e wbf ⟨rfl,hbf⟩
 have HBF:=zh (q_next hsaf hbf)
 refine hK.out _ _ (q_next hsaf hbf) (Keeps.below hbf) ?_
 clear hK K hnaf hsaf
 iterate 3(refine wpFl_qL (v:=?_) rfl (Or.inl ⟨by rfl,?_⟩) ?_;rotate_left;(focus(intro w' hSw;go_simp;(try with_reducible rfl);done));simp only[Act.put,zzA,zzB,zzC])
 refine wpFl_nil ?_
 refine NoPanic.normal ?_
 go_upto_region 22 with fail
 have HBE:=zh (q_next HBD.out HBF.out)
 clear HBF HS3 hba hbb hbc hbd hbe hbf hz_b3 hn_w23 hs_w23 hb_b3 HC0 HC1 HK1 HK2 HBD HB22
 obtain⟨db,do1,hda,hdb,hdv⟩:=HD3.out 0 _ rfl
 obtain⟨bb,bo1,hba,hbb,hbv0⟩:=HB3.out 0 _ rfl
 obtain⟨bb2,bo2,hba2,-,hbv1⟩:=HB3.out 1 _ rfl
 subst hda hba
 obtain⟨rfl,rfl⟩:bb2=bb∧bo2=bo1:=by
  injection hba2 with e
  injection e with e1 e2
  exact⟨e1.symm,e2.symm⟩
 rw[Nat.zero_mul,Nat.add_zero]at hdv hbv0
 rw[Nat.one_mul]at hbv1
 have HA3:=zh (fun W (hW:Below w13.heap.size w13 W)=>And.intro (HA.out W hW) (And.intro (hdv.keep hW hdb).ten (And.intro (hbv0.keep hW hbb).ten.1 (hbv1.keep hW hbb).ten)))
 have HQ1:=zh (eqlDouble2 (⟨2,55,0,x,L2⟩,⟨2,55,0,y,M2⟩) (⟨2,55,0,x,L2⟩,⟨2,55,0,y,M2⟩))
 have HV1:=zh (qconvicts_w HE.out HKS.out (⟨2,55,0,x,L2⟩,⟨2,55,0,y,M2⟩) true (by rw[HE2.out,HE4.out];exact s_convicts hk h4 s1 s0 hlt))
 have HV2:=zh (qconvicts_w HE.out HKS.out (⟨2,55,0,y,M2⟩,⟨2,55,0,x,L2⟩) false (by rw[HE2.out,HE4.out];exact s_convicts_no hk h4 s1 s0 hlt))
 rw[decide_eq_true rfl]at HQ1
 simp only[dagg,dagg2]at HQ1 HV1 HV2
 clear HD3 HB3 hdv hbv0 hbv1 hba2 HVP2 HVP
 have hq1:=HQ1.out
 refine wp_region_noPanic ?_
 refine wp_region_lexB [.q 0,.q 1,.q 2,.q 3,.q 4,.q 6,.q 7,.b 5,.b 8,.q 9,.q 10,.q 11,.q 12,.q 13,.q 14,.q 15,.q 16,.q 17,.q 18,.q 19,.q 20,.q 21,.q 22,.q 23,.q 24,.q 25,.q 26,.q 27,.q 28,.q 29,.q 30,.q 31,.q 32,.b 33,.q 34,.q 35,.q 36,.q 37,.q 38,.q 39,.q 40,.q 41,.q 42,.q 43,.q 44,.q 45,.b 46,.q 47,.q 48,.q 49] (by kernel_rfl) (by kernel_rfl) (fun _ _ _ _ h=>h) ?_
 iterate 7(refine wpFl_qL (v:=?_) rfl (Or.inl ⟨by rfl,?_⟩) ?_;rotate_left;(focus(intro w' hSw;obtain⟨⟨c0,⟨t0,t1⟩,-⟩,⟨d0,d1,d2,d3,d4,d5,d6,d7,d8,d9⟩,e0,f0,f1,f2,f3,f4,f5,f6,f7,f8,f9⟩:=HA3.out w' (q_next HBE.out hSw);go_simp;(try with_reducible rfl);done));simp only[Act.put,zzA,zzB,zzC])
 refine wpFl_bL rfl (fun waa hnaa hsaa K hK=>?_)
 go_simp
 go_at_call 43
 (with_reducible refine(HC2.out _ (q_next HBE.out hsaa)).mono ?_)
 rintro e wba ⟨rfl,hba⟩
 refine hK.out _ _ (q_next hsaa hba) (Keeps.below hba) ?_
 clear hK K hnaa hsaa
 refine wpFl_bL rfl (fun wab hnab hsab K hK=>?_)
 go_simp
 go_at_call 43
 (with_reducible refine(HC3.out _ (q_next HBE.out hsab)).mono ?_)
 rintro e wbb ⟨rfl,hbb⟩
 refine hK.out _ _ (q_next hsab hbb) (Keeps.below hbb) ?_
 clear hK K hnab hsab
 iterate 24(refine wpFl_qL (v:=?_) rfl (Or.inl ⟨by rfl,?_⟩) ?_;rotate_left;(focus(intro w' hSw;obtain⟨⟨c0,⟨t0,t1⟩,-⟩,⟨d0,d1,d2,d3,d4,d5,d6,d7,d8,d9⟩,e0,f0,f1,f2,f3,f4,f5,f6,f7,f8,f9⟩:=HA3.out w' (q_next HBE.out hSw);go_simp;(try with_reducible rfl);done));simp only[Act.put,zzA,zzB,zzC])
 refine wpFl_bL rfl (fun wac hnac hsac K hK=>?_)
 go_simp
 go_at_call 26
 (with_reducible refine(HV1.out _ (q_next HBE.out hsac)).mono ?_)
 rintro e wbc ⟨rfl,hbc⟩
 refine hK.out _ _ (q_next hsac hbc) (Keeps.below hbc) ?_
 clear hK K hnac hsac
 iterate 12(refine wpFl_qL (v:=?_) rfl (Or.inl ⟨by rfl,?_⟩) ?_;rotate_left;(focus(intro w' hSw;obtain⟨⟨c0,⟨t0,t1⟩,-⟩,⟨d0,d1,d2,d3,d4,d5,d6,d7,d8,d9⟩,e0,f0,f1,f2,f3,f4,f5,f6,f7,f8,f9⟩:=HA3.out w' (q_next HBE.out hSw);go_simp;(try with_reducible rfl);done));simp only[Act.put,zzA,zzB,zzC])
 refine wpFl_bL rfl (fun wad hnad hsad K hK=>?_)
 go_simp
 go_at_call 26
 (with_reducible refine(HV2.out _ (q_next HBE.out hsad)).mono ?_)
 rintro e wbd ⟨rfl,hbd⟩
 have HBF:=zh (q_next hsad hbd)
 refine hK.out _ _ (q_next hsad hbd) (Keeps.below hbd) ?_
 clear hK K hnad hsad
 iterate 3(refine wpFl_qL (v:=?_) rfl (Or.inl ⟨by rfl,?_⟩) ?_;rotate_left;(focus(intro w' hSw;go_simp;(try with_reducible rfl);done));simp only[Act.put,zzA,zzB,zzC])
 refine wpFl_nil ?_
 refine NoPanic.normal ?_
 have HBG:=zh (q_next HBE.out HBF.out)
 clear HBF hba hbb hbc hbd HC2 HC3 HV1 HV2 HQ1 hq1 HA3
 obtain⟨c0,⟨t0,t1⟩,-⟩:=HA.out _ HBG.out
 have HT1:=zh (tallies_w HE.out HKS.out HPOOL.out 55 0 [(x,3),(y,2)] (s_tally hk h4 s1 s0 hlt) _ HBG.out)
 have HST:Hid (∀(W:World) (v:Value),TS W v [(x,3),(y,2)]→Calls Tryz.prog 45 #[v,.slice (some ⟨W.heap.size,0,none⟩) 2 2] (W.alloc (.cells #[.string x,.int .i64 3,.string y,.int .i64 2] 68)) fun e w'=>e=.returned (.bool true)∧Below W.heap.size W w'):=zh fun W v hv=>by
  have ha:=(Below.refl W.heap.size W).alloc (Nat.le_refl _) (.cells #[.string x,.int .i64 3,.string y,.int .i64 2] 68)
  have h:=sameT_any (hv.below ha) (two_tallies (heap_alloc_new W (.cells #[.string x,.int .i64 3,.string y,.int .i64 2] 68)))
  rw[decide_eq_true rfl]at h
  exact h.mono fun e w' ⟨h1,h2⟩=>⟨h1,q_next ha h2⟩
 go_wp2_with (first | (go_at_call 38;(with_reducible refine HT1.out.mono ?_);rintro e w24 ⟨vt,rfl,htt,hbt⟩;have HTT:=zh htt;have HBT:=zh (q_next HBG.out hbt);clear htt hbt) | (go_at_call 45;(with_reducible refine(HST.out w24 vt HTT.out).mono ?_);rintro e w25 ⟨rfl,hb25⟩))
 go_ret
 exact⟨rfl,HBW.out.trans ((q_next HBT.out hb25).mono HBW.out.size)⟩
end Go.Proofs.YtggdcnjaofflbaaGreatDoor
