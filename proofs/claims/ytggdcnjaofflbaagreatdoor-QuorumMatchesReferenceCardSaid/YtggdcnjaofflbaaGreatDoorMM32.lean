/- Walk of the law: QuorumMatchesReference, a round of its loop over the votes from the pair on: the casts, the convictions. The conditions: lengths. -/
import Derived.Test.YtggdcnjaofflbaaGreatDoorMM30
import Derived.Test.YtggdcnjaofflbaaGreatDoorMM31
namespace Go.Proofs.YtggdcnjaofflbaaGreatDoor
open Go.RowKit Go.BigFrame
theorem ten_cells {W:World}{b:Nat}{c0 c1 c2 c3 c4 c5 c6 c7 c8 c9:Value}{T:TypeId}(h:W.heap[b]?=some (.cells #[c0,c1,c2,c3,c4,c5,c6,c7,c8,c9] T (0,0))) :
  (W.cell? ⟨b,0,none⟩=some c0∧W.cell? ⟨b,1,none⟩=some c1∧W.cell? ⟨b,2,none⟩=some c2∧W.cell? ⟨b,3,none⟩=some c3∧W.cell? ⟨b,4,none⟩=some c4)∧W.cell? ⟨b,5,none⟩=some c5∧W.cell? ⟨b,6,none⟩=some c6∧W.cell? ⟨b,7,none⟩=some c7∧W.cell? ⟨b,8,none⟩=some c8∧W.cell? ⟨b,9,none⟩=some c9 :=
 ⟨⟨cell_of_row W _ 0 _ _ _ h,cell_of_row W _ 1 _ _ _ h,cell_of_row W _ 2 _ _ _ h,cell_of_row W _ 3 _ _ _ h,cell_of_row W _ 4 _ _ _ h⟩,cell_of_row W _ 5 _ _ _ h,cell_of_row W _ 6 _ _ _ h,cell_of_row W _ 7 _ _ _ h,cell_of_row W _ 8 _ _ _ h,cell_of_row W _ 9 _ _ _ h⟩
def rtS:Code→Code
 | .seq _ c=>c
 | c=>c
def lfS:Code→Code
 | .seq c _=>c
 | c=>c
def blS:Code→Code
 | .block _ c=>c
 | c=>c
def lpS:Code→Code
 | .loop c=>c
 | c=>c
theorem wp_of_ex {P:Program}{R:Code→Prop}{L:Code}{Q:Exit→Act→World→Prop}{a:Act}{w:World}(h:∃ c,R c∧c.wp P Q a w)(e:∀ c,R c→c=L):L.wp P Q a w:=by
 obtain⟨c,hc,hw⟩:=h
 exact e c hc ▸ hw
def rtQN6 (c:Code):Code:=rtS (rtS (rtS (blS (lfS (rtS (lpS (blS (rtS (lfS (rtS (rtS (rtS (rtS (rtS (rtS (rtS (rtS (rtS (rtS (rtS (rtS (rtS (c)))))))))))))))))))))))
theorem tailQN6 {c L:Code}(h:∃ a0 a1 a2 a3 a4 a5 a6 a7 a8 a9 a10 a11 a12 x y z b0 b1 b2 r:Code,Tryz.f3.body=some (a0.seq (a1.seq (a2.seq (a3.seq (a4.seq (a5.seq (a6.seq (a7.seq (a8.seq (a9.seq (a10.seq (a11.seq (a12.seq (((x.seq (Code.block 0 (Code.loop (y.seq ((Code.block 1 (b0.seq (b1.seq (b2.seq c)))).seq z))))).seq r))))))))))))))))(hL:Tryz.f3.body.map rtQN6=some L:=by rfl):c=L:=by
 obtain⟨a0,a1,a2,a3,a4,a5,a6,a7,a8,a9,a10,a11,a12,x,y,z,b0,b1,b2,r,e⟩:=h
 rw[e]at hL
 exact Option.some.inj hL
set_option maxHeartbeats 16000000 in
set_option maxRecDepth 100000 in
theorem mref_casts {wb w5:World}(HB5:Hid (Below wb.heap.size wb w5))(HE:Hid (QEnv wb))(bc m kc k j N oc lb lo:Nat)(ka:Option Addr)(ks:List ByteArray)(vp:Value)(P:List VoteP)(v t:VoteP)(tk0:(0:Int)≤(j:Int))(tk:(j:Int) < (N:Int))(hk0:(0:Int)≤(k:Int))(hk1:(k:Int) < (N:Int))(_hN9:N≤9223372036854775807)(u key:ByteArray)(hks:Hid (∀ k∈ks,k.size≤1000))
  (HK:Hid (SS wb (.slice ka m kc) ks)) (HP:Hid (VS wb vp P)) (HC:Hid (∀ W,Below wb.heap.size wb W→W.cell? ⟨bc,0,none⟩=some (.slice ka m kc))) (HVC:Hid (∀ W,Below wb.heap.size wb W→VAt W lb (lo+j*5) v)) (HTC:Hid (∀ W,Below wb.heap.size wb W→VAt W lb (lo+k*5) t)) {u0 u1 u2 u3 u4 u5 u6 u7 u9 u10 u11 u12 u13 u14 u15 u16 u17 u18 u19 u21 u26 u27 u29 u30 u31 u32 u33 u34 u35 u36 u37 u38 u39 u40 u41 u42 u43 u44 u45 u46 u47 u48 u49 u50 u51 u52 u53 u54 u55 u56 u57 u58 u59 u60 u61 u62 u63 u64 u65 u66 u67 u68 u69 u70 u71 u72 u73 u74 u75 u76 u77 u78 u79 u80 u81 u82 u83 u84 u85 u86 u87 u88 u89 u90 u91 u92 u93 u94 u95 u96 u97 u98 u99 u100 u101 u102 u103 u104 u105 u106 u107 u108 u109 u110 u111 u112 u113 u114 u115 u116 u117 u118 u119 u120 u121 u122 u123 u124 u125 u126 u127 u128 u129 u130 u131 u132 u133 u134 u135 u136 u137 u138 u139 u140 u141 u142 u143 u144 u145 u146 u147 u148 u149 u150 u151 u152 u153 u154 u155 u156 u157 u158 u159 u160 u161 u162 u163 u164 u165 u166 u167 u168 u169 u170 u171 u172 u173 u174 u175 u176 u177 u178 u179 u180 u181 u182 u183 u184 u185 u186 u187 u188 u189 u190 u191 u192 u193 u194 u195 u196 u197 u198 u199 u200 u201 u202 u203 u204 u205 u206 u207 u208 u209 u210 u211 u212 u213 u214 u215 u216 u217 u218 u219 u220 u221 u222 u223 u224 u225 u226 u227 u228 u229 u230 u231 u232 u233 u234 u235 u236 u237 u238 u239 u240 u241 u242 u243 u244 u245 u246 u247 u248 u249 u250 u251 u252 u253 u254 u255 u256 u257 u258 u259 u260 u261 u262 u263 u264 u265 u266 u267 u268 u269 u270 u271 u272 u273 u274 u275 u276 u277 u278 u279 u280 u281 u282 u283 u284 u285 u286 u287 u288 u289 u290 u291 u292 u293 u294 u295 u296 u297 u298 u299 u300 u301 u302 u303 u304 u305 u306 u307 u308 u309 u310 u311 u312 u313 u314 u315 u316 u317 u318 u319 u320 u321 u322 u323 u324 u325 u326 u327 u328 u329 u330 u331 u332 u333 u334 u335 u336 u337 u338 u339 u340 u341 u342 u343 u344 u345 u346 u347 u348 u349 u350 u351 u352 u353 u354 u355 u356 u357 u358 u359 u360 u361 u362 u363 u364 u365 u366 u367 u368 u369 u370 u371 u372 u373 u374 u375 u376 u377 u378 u379 u380 u381 u382 u383 u384 u385 u386 u387 u388 u389 u390 u391 u392 u393 u394 u395 u396 u397 u398 u399 u400 u401 u402 u403 u404 u405 u406 u407 u408 u409 u410 u411 u412 u413 u414 u415 u416 u417 u418 u419 u420 u421 u422 u423 u424 u425 u426 u427 u428 u429 u430 u431 u432 u433 u434 u435 u436 u437 u438 u439:Value}
  {Q:Exit→Act→World→Prop} (hQ:∀(y33 y34 y35 y36 y37 y38 y39 y40 y41 y211 y212 y213 y214 y215 y216 y217 y218 y219 y220 y221 y222 y223 y224 y225 y226 y227 y228 y229 y230 y231 y232 y233 y234 y235 y236 y237 y238 y239 y240 y241 y242 y243 y244 y245 y246 y247 y248 y249 y250 y251 y252 y253 y254 y255 y256 y257 y258 y259 y260 y261 y262 y263 y264 y265 y266 y267 y268 y269 y270 y271 y272 y273 y274 y275 y276 y277 y278 y279 y280 y281 y282 y283 y284 y285 y286 y287 y288 y289 y290 y291 y292 y293 y294 y295 y296 y297 y298 y299 y300 y301 y302 y303 y304 y305 y306 y307 y308 y309 y310 y311 y312 y313 y314 y315 y316 y317 y318 y319 y320 y321 y322:Value) (w':World),Hid (Below wb.heap.size wb w')→Q .normal { tmps:=#[u0,u1,u2,u3,u4,u5,u6,u7,.string key,u9,u10,u11,u12,u13,u14,u15,u16,u17,u18,u19,.pointer (some ⟨bc,0,none⟩),u21,.string u,vp,.slice (some ⟨lb,lo,none⟩) N oc,.int .i64 (k:Int),u26,u27,.int .i64 (j:Int),u29,u30,u31,u32,y33,y34,y35,y36,y37,y38,y39,y40,y41,u42,u43,u44,u45,u46,u47,u48,u49,u50,u51,u52,u53,u54,u55,u56,u57,u58,u59,u60,u61,u62,u63,u64,u65,u66,u67,u68,u69,u70,u71,u72,u73,u74,u75,u76,u77,u78,u79,u80,u81,u82,u83,u84,u85,u86,u87,u88,u89,u90,u91,u92,u93,u94,u95,u96,u97,u98,u99,u100,u101,u102,u103,u104,u105,u106,u107,u108,u109,u110,u111,u112,u113,u114,u115,u116,u117,u118,u119,u120,u121,u122,u123,u124,u125,u126,u127,u128,u129,u130,u131,u132,u133,u134,u135,u136,u137,u138,u139,u140,u141,u142,u143,u144,u145,u146,u147,u148,u149,u150,u151,u152,u153,u154,u155,u156,u157,u158,u159,u160,u161,u162,u163,u164,u165,u166,u167,u168,u169,u170,u171,u172,u173,u174,u175,u176,u177,u178,u179,u180,u181,u182,u183,u184,u185,u186,u187,u188,u189,u190,u191,u192,u193,u194,u195,u196,u197,u198,u199,u200,u201,u202,u203,u204,u205,u206,u207,u208,u209,u210,y211,y212,y213,y214,y215,y216,y217,y218,y219,y220,y221,y222,y223,y224,y225,y226,y227,y228,y229,y230,y231,y232,y233,y234,y235,y236,y237,y238,y239,y240,y241,y242,y243,y244,y245,y246,y247,y248,y249,y250,y251,y252,y253,y254,y255,y256,y257,y258,y259,y260,y261,y262,y263,y264,y265,y266,y267,y268,y269,y270,y271,y272,y273,y274,y275,y276,y277,y278,y279,y280,y281,y282,y283,y284,y285,y286,y287,y288,y289,y290,y291,y292,y293,y294,y295,y296,y297,y298,y299,y300,y301,y302,y303,y304,y305,y306,y307,y308,y309,y310,y311,y312,y313,y314,y315,y316,y317,y318,y319,y320,y321,y322,u323,u324,u325,u326,u327,u328,u329,u330,u331,u332,u333,u334,u335,u336,u337,u338,u339,u340,u341,u342,u343,u344,u345,u346,u347,u348,u349,u350,u351,u352,u353,u354,u355,u356,u357,u358,u359,u360,u361,u362,u363,u364,u365,u366,u367,u368,u369,u370,u371,u372,u373,u374,u375,u376,u377,u378,u379,u380,u381,u382,u383,u384,u385,u386,u387,u388,u389,u390,u391,u392,u393,u394,u395,u396,u397,u398,u399,u400,u401,u402,u403,u404,u405,u406,u407,u408,u409,u410,u411,u412,u413,u414,u415,u416,u417,u418,u419,u420,u421,u422,u423,u424,u425,u426,u427,u428,u429,u430,u431,u432,u433,u434,u435,u436,u437,u438,u439],defers:=[] } w') :
  ∃ c:Code,(∃ a0 a1 a2 a3 a4 a5 a6 a7 a8 a9 a10 a11 a12 x y z b0 b1 b2 r:Code,Tryz.f3.body=some (a0.seq (a1.seq (a2.seq (a3.seq (a4.seq (a5.seq (a6.seq (a7.seq (a8.seq (a9.seq (a10.seq (a11.seq (a12.seq (((x.seq (Code.block 0 (Code.loop (y.seq ((Code.block 1 (b0.seq (b1.seq (b2.seq c)))).seq z))))).seq r))))))))))))))))∧c.wp Tryz.prog Q { tmps:=#[u0,u1,u2,u3,u4,u5,u6,u7,.string key,u9,u10,u11,u12,u13,u14,u15,u16,u17,u18,u19,.pointer (some ⟨bc,0,none⟩),u21,.string u,vp,.slice (some ⟨lb,lo,none⟩) N oc,.int .i64 (k:Int),u26,u27,.int .i64 (j:Int),u29,u30,u31,u32,u33,u34,u35,u36,u37,u38,u39,u40,u41,u42,u43,u44,u45,u46,u47,u48,u49,u50,u51,u52,u53,u54,u55,u56,u57,u58,u59,u60,u61,u62,u63,u64,u65,u66,u67,u68,u69,u70,u71,u72,u73,u74,u75,u76,u77,u78,u79,u80,u81,u82,u83,u84,u85,u86,u87,u88,u89,u90,u91,u92,u93,u94,u95,u96,u97,u98,u99,u100,u101,u102,u103,u104,u105,u106,u107,u108,u109,u110,u111,u112,u113,u114,u115,u116,u117,u118,u119,u120,u121,u122,u123,u124,u125,u126,u127,u128,u129,u130,u131,u132,u133,u134,u135,u136,u137,u138,u139,u140,u141,u142,u143,u144,u145,u146,u147,u148,u149,u150,u151,u152,u153,u154,u155,u156,u157,u158,u159,u160,u161,u162,u163,u164,u165,u166,u167,u168,u169,u170,u171,u172,u173,u174,u175,u176,u177,u178,u179,u180,u181,u182,u183,u184,u185,u186,u187,u188,u189,u190,u191,u192,u193,u194,u195,u196,u197,u198,u199,u200,u201,u202,u203,u204,u205,u206,u207,u208,u209,u210,u211,u212,u213,u214,u215,u216,u217,u218,u219,u220,u221,u222,u223,u224,u225,u226,u227,u228,u229,u230,u231,u232,u233,u234,u235,u236,u237,u238,u239,u240,u241,u242,u243,u244,u245,u246,u247,u248,u249,u250,u251,u252,u253,u254,u255,u256,u257,u258,u259,u260,u261,u262,u263,u264,u265,u266,u267,u268,u269,u270,u271,u272,u273,u274,u275,u276,u277,u278,u279,u280,u281,u282,u283,u284,u285,u286,u287,u288,u289,u290,u291,u292,u293,u294,u295,u296,u297,u298,u299,u300,u301,u302,u303,u304,u305,u306,u307,u308,u309,u310,u311,u312,u313,u314,u315,u316,u317,u318,u319,u320,u321,u322,u323,u324,u325,u326,u327,u328,u329,u330,u331,u332,u333,u334,u335,u336,u337,u338,u339,u340,u341,u342,u343,u344,u345,u346,u347,u348,u349,u350,u351,u352,u353,u354,u355,u356,u357,u358,u359,u360,u361,u362,u363,u364,u365,u366,u367,u368,u369,u370,u371,u372,u373,u374,u375,u376,u377,u378,u379,u380,u381,u382,u383,u384,u385,u386,u387,u388,u389,u390,u391,u392,u393,u394,u395,u396,u397,u398,u399,u400,u401,u402,u403,u404,u405,u406,u407,u408,u409,u410,u411,u412,u413,u414,u415,u416,u417,u418,u419,u420,u421,u422,u423,u424,u425,u426,u427,u428,u429,u430,u431,u432,u433,u434,u435,u436,u437,u438,u439],defers:=[] } w5:=by
 refine⟨_,⟨_,_,_,_,_,_,_,_,_,_,_,_,_,_,_,_,_,_,_,_,rfl⟩,?_⟩
 have HQ:=zh hQ
 clear hQ
 obtain⟨vc,vn,vs,vv,vl⟩:=v
 unfold VAt at HVC
 simp only at HVC
 go_upto_region 22 with fail
 obtain⟨tc,tn,ts,tv,tl⟩:=t
 unfold VAt at HTC
 simp only at HTC
 refine wp_region_noPanic ?_
 refine wp_region_lexB [.q 0,.q 1,.q 2,.q 3,.q 4,.q 5,.q 6,.q 7,.q 8,.an 9,.co 9,.b 10] (by kernel_rfl) (by kernel_rfl) (fun _ _ _ _ h=>h) ?_
 iterate 9(refine wpFl_qL (v:=?_) rfl (Or.inl ⟨by rfl,?_⟩) ?_;rotate_left;(focus(intro w' hSw;obtain⟨d0,d1,d2,d3,d4⟩:=HVC.out w' (q_next HB5.out hSw);obtain⟨e0,e1,e2,e3,e4⟩:=HTC.out w' (q_next HB5.out hSw);go_simp;(try with_reducible rfl);done));simp only[Act.put,zzA,zzB,zzC])
 refine wpFl_anL rfl (.cells #[.int .i64 0,.int .i64 0,.int .i64 0,.string ⟨#[]⟩,.string ⟨#[]⟩,.int .i64 0,.int .i64 0,.int .i64 0,.string ⟨#[]⟩,.string ⟨#[]⟩] 45 (0,0)) (fun n=>.pointer (some ⟨n,0,none⟩)) ⟨by rfl,fun w'=>?_⟩ ?_
 focus(go_simp;done)
 refine wpFl_coL rfl (.cells #[.int .i64 0,.int .i64 0,.int .i64 0,.string ⟨#[]⟩,.string ⟨#[]⟩,.int .i64 0,.int .i64 0,.int .i64 0,.string ⟨#[]⟩,.string ⟨#[]⟩] 45 (0,0)) (fun n=>.pointer (some ⟨n,0,none⟩)) (by rfl) (N':=[]) (by rfl) (fun bd wd hn_wd hs_wd hb_bd hz_bd=>?_)
 simp only[Act.put,zzA,zzB,zzC]
 refine wpFl_bL rfl (fun wf hnf hsf K hK=>?_)
 have HZ:=zh (kept_block hz_bd hnf)
 obtain⟨⟨z0,z1,z2,z3,z4⟩,z5,z6,z7,z8,z9⟩:=ten_cells HZ.out
 have zf:∀ j,wf.frozen? ⟨bd,j,none⟩=false:=fun j=>by unfold World.frozen?;rw[HZ.out];simp
 go_simp
 have HBd:=zh (ten_below hsf hb_bd (.int .i64 vc) (.int .i64 vn) (.int .i64 vs) (.string vv) (.string vl) (.int .i64 tc) (.int .i64 tn) (.int .i64 ts) (.string tv) (.string tl))
 have HVd:=zh (ten_heap HZ.out (.int .i64 vc) (.int .i64 vn) (.int .i64 vs) (.string vv) (.string vl) (.int .i64 tc) (.int .i64 tn) (.int .i64 ts) (.string tv) (.string tl))
 refine hK.out _ _ HBd.out Keeps.nil ?_
 clear hK K z0 z1 z2 z3 z4 z5 z6 z7 z8 z9 zf HZ hnf hsf hb_bd hz_bd hn_wd hs_wd
 generalize ((((((((((wf.setCell ⟨bd,0,none⟩ (.int .i64 vc)).setCell ⟨bd,1,none⟩ (.int .i64 vn)).setCell ⟨bd,2,none⟩ (.int .i64 vs)).setCell ⟨bd,3,none⟩ (.string vv)).setCell ⟨bd,4,none⟩ (.string vl)).setCell ⟨bd,5,none⟩ (.int .i64 tc)).setCell ⟨bd,6,none⟩ (.int .i64 tn)).setCell ⟨bd,7,none⟩ (.int .i64 ts)).setCell ⟨bd,8,none⟩ (.string tv)).setCell ⟨bd,9,none⟩ (.string tl))=w6 at *
 refine wpFl_nil ?_
 refine NoPanic.normal ?_
 have HB6:=zh (q_next HB5.out HBd.out)
 have HKY:Hid (∀ W,Calls Tryz.prog 25 #[.int .i64 1] W fun e w'=>e=.returned (.string (keyQ 1))∧Below W.heap.size W w'):=zh (fun W=>keyQ_any 1 (by omega) W)
 have HC1:=zh (fun W (hW:Below wb.heap.size wb W)=>cast_free key vc vn vs vv (HP.out.below hW) (HE.out.step hW).env (HE.out.step hW).round)
 have HC2:=zh (fun W (hW:Below wb.heap.size wb W)=>rcast_any key vc vn vs vv (HP.out.below hW))
 have HC3:=zh (fun W (hW:Below wb.heap.size wb W)=>cast_free (keyQ 1) vc vn vs u (HP.out.below hW) (HE.out.step hW).env (HE.out.step hW).round)
 have HC4:=zh (fun W (hW:Below wb.heap.size wb W)=>rcast_any (keyQ 1) vc vn vs u (HP.out.below hW))
 obtain⟨q1,er1,hq1⟩:=castR_two (castV key vc vn vs vv P)
 obtain⟨q2,er2,hq2⟩:=castR_two (castV (keyQ 1) vc vn vs u P)
 rw[hq1]at HC1 HC2
 rw[hq2]at HC3 HC4
 unfold vagg at HC1 HC2 HC3 HC4
 obtain⟨xc,xn,xs,xv,xl⟩:=q1
 obtain⟨yc,yn,ys,yv,yl⟩:=q2
 simp only at HC1 HC2 HC3 HC4
 clear hq1 hq2
 generalize keyQ 1=k1 at *
 go_upto_region 23 with fail
 refine wp_region_noPanic ?_
 refine wp_region_lexB [.q 0,.q 1,.q 2,.q 3,.q 4,.q 5,.q 6,.q 7,.q 8,.q 9,.q 10,.q 11,.q 12,.q 13,.q 14,.q 15,.q 16,.an 21,.b 17,.q 18,.q 19,.q 20,.co 21,.b 22,.q 23] (by kernel_rfl) (by kernel_rfl) (fun _ _ _ _ h=>h) ?_
 iterate 17(refine wpFl_qL (v:=?_) rfl (Or.inl ⟨by rfl,?_⟩) ?_;rotate_left;(focus(intro w' hSw;obtain⟨d0,d1,d2,d3,d4⟩:=HVC.out w' (q_next HB6.out hSw);go_simp;(try with_reducible rfl);done));simp only[Act.put,zzA,zzB,zzC])
 refine wpFl_anL rfl (.cells #[.int .i64 0,.int .i64 0,.int .i64 0,.string ⟨#[]⟩,.string ⟨#[]⟩] 27 (0,0)) (fun n=>.pointer (some ⟨n,0,none⟩)) ⟨by rfl,fun w'=>?_⟩ ?_
 focus(go_simp;done)
 refine wpFl_bL rfl (fun wap hnap hsap K hK=>?_)
 go_simp
 go_at_call 23
 (with_reducible refine(HC1.out _ (q_next HB6.out hsap)).mono ?_)
 rintro e wbp ⟨rfl,hbp⟩
 refine hK.out _ _ (q_next hsap hbp) (Keeps.below hbp) ?_
 clear hK K hnap hsap
 iterate 3(refine wpFl_qL (v:=?_) rfl (Or.inl ⟨by rfl,?_⟩) ?_;rotate_left;(focus(intro w' hSw;go_simp;(try with_reducible rfl);done));simp only[Act.put,zzA,zzB,zzC])
 refine wpFl_coL rfl (.cells #[.int .i64 0,.int .i64 0,.int .i64 0,.string ⟨#[]⟩,.string ⟨#[]⟩] 27 (0,0)) (fun n=>.pointer (some ⟨n,0,none⟩)) (by rfl) (N':=[]) (by rfl) (fun bp wqp hn_wqp hs_wqp hb_bp hz_bp=>?_)
 simp only[Act.put,zzA,zzB,zzC]
 refine wpFl_bL rfl (fun wfp hnf hsf K hK=>?_)
 have HZ:=zh (kept_block hz_bp hnf)
 obtain⟨z0,z1,z2,z3,z4⟩:=vcellsAt HZ.out
 have zf:∀ j,World.frozen? wfp ⟨bp,j,none⟩=false:=fun j=>by unfold World.frozen?;rw[HZ.out];simp
 go_simp
 have HGp:=zh (vfive_below hsf hb_bp (.int .i64 xc) (.int .i64 xn) (.int .i64 xs) (.string xv) (.string xl))
 have HVp:=zh (vfive_heap HZ.out (.int .i64 xc) (.int .i64 xn) (.int .i64 xs) (.string xv) (.string xl))
 refine hK.out _ _ HGp.out Keeps.nil ?_
 clear hK K z0 z1 z2 z3 z4 zf HZ hnf hsf hb_bp hz_bp hn_wqp hs_wqp
 generalize (((((wfp.setCell ⟨bp,0,none⟩ (.int .i64 xc)).setCell ⟨bp,1,none⟩ (.int .i64 xn)).setCell ⟨bp,2,none⟩ (.int .i64 xs)).setCell ⟨bp,3,none⟩ (.string xv)).setCell ⟨bp,4,none⟩ (.string xl))=w7 at *
 refine wpFl_qL (v:=?_) rfl (Or.inl ⟨by rfl,?_⟩) ?_
 rotate_left
 focus(intro w' hSw;go_simp;(try with_reducible rfl);done)
 simp only[Act.put,zzA,zzB,zzC]
 refine wpFl_nil ?_
 refine NoPanic.normal ?_
 have HB7:=zh (q_next HB6.out HGp.out)
 go_upto_region 24 with fail
 refine wp_region_noPanic ?_
 refine wp_region_lexB [.q 0,.q 1,.q 2,.q 3,.q 4,.q 5,.q 6,.q 7,.q 8,.q 9,.q 10,.q 11,.q 12,.q 13,.q 14,.q 15,.q 16,.an 21,.b 17,.q 18,.q 19,.q 20,.co 21,.b 22,.q 23] (by kernel_rfl) (by kernel_rfl) (fun _ _ _ _ h=>h) ?_
 iterate 17(refine wpFl_qL (v:=?_) rfl (Or.inl ⟨by rfl,?_⟩) ?_;rotate_left;(focus(intro w' hSw;obtain⟨d0,d1,d2,d3,d4⟩:=HVC.out w' (q_next HB7.out hSw);go_simp;(try with_reducible rfl);done));simp only[Act.put,zzA,zzB,zzC])
 refine wpFl_anL rfl (.cells #[.int .i64 0,.int .i64 0,.int .i64 0,.string ⟨#[]⟩,.string ⟨#[]⟩] 27 (0,0)) (fun n=>.pointer (some ⟨n,0,none⟩)) ⟨by rfl,fun w'=>?_⟩ ?_
 focus(go_simp;done)
 refine wpFl_bL rfl (fun war hnar hsar K hK=>?_)
 go_simp
 go_at_call 24
 (with_reducible refine(HC2.out _ (q_next HB7.out hsar)).mono ?_)
 rintro e wbr ⟨rfl,hbr⟩
 refine hK.out _ _ (q_next hsar hbr) (Keeps.below hbr) ?_
 clear hK K hnar hsar
 iterate 3(refine wpFl_qL (v:=?_) rfl (Or.inl ⟨by rfl,?_⟩) ?_;rotate_left;(focus(intro w' hSw;go_simp;(try with_reducible rfl);done));simp only[Act.put,zzA,zzB,zzC])
 refine wpFl_coL rfl (.cells #[.int .i64 0,.int .i64 0,.int .i64 0,.string ⟨#[]⟩,.string ⟨#[]⟩] 27 (0,0)) (fun n=>.pointer (some ⟨n,0,none⟩)) (by rfl) (N':=[]) (by rfl) (fun br wqr hn_wqr hs_wqr hb_br hz_br=>?_)
 simp only[Act.put,zzA,zzB,zzC]
 refine wpFl_bL rfl (fun wfr hnf hsf K hK=>?_)
 have HZ:=zh (kept_block hz_br hnf)
 obtain⟨z0,z1,z2,z3,z4⟩:=vcellsAt HZ.out
 have zf:∀ j,World.frozen? wfr ⟨br,j,none⟩=false:=fun j=>by unfold World.frozen?;rw[HZ.out];simp
 go_simp
 have HGr:=zh (vfive_below hsf hb_br (.int .i64 xc) (.int .i64 xn) (.int .i64 xs) (.string xv) (.string xl))
 have HVr:=zh (vfive_heap HZ.out (.int .i64 xc) (.int .i64 xn) (.int .i64 xs) (.string xv) (.string xl))
 refine hK.out _ _ HGr.out Keeps.nil ?_
 clear hK K z0 z1 z2 z3 z4 zf HZ hnf hsf hb_br hz_br hn_wqr hs_wqr
 generalize (((((wfr.setCell ⟨br,0,none⟩ (.int .i64 xc)).setCell ⟨br,1,none⟩ (.int .i64 xn)).setCell ⟨br,2,none⟩ (.int .i64 xs)).setCell ⟨br,3,none⟩ (.string xv)).setCell ⟨br,4,none⟩ (.string xl))=w8 at *
 refine wpFl_qL (v:=?_) rfl (Or.inl ⟨by rfl,?_⟩) ?_
 rotate_left
 focus(intro w' hSw;go_simp;(try with_reducible rfl);done)
 simp only[Act.put,zzA,zzB,zzC]
 refine wpFl_nil ?_
 refine NoPanic.normal ?_
 have HB8:=zh (q_next HB7.out HGr.out)
 go_upto_region 25 with fail
 refine wp_region_noPanic ?_
 refine wp_region_lexB [.q 1,.q 2,.q 3,.q 4,.q 5,.q 6,.q 7,.q 8,.q 9,.q 10,.q 11,.q 12,.an 17,.b 0,.b 13,.q 14,.q 15,.q 16,.co 17,.b 18,.q 19] (by kernel_rfl) (by kernel_rfl) (fun _ _ _ _ h=>h) ?_
 iterate 12(refine wpFl_qL (v:=?_) rfl (Or.inl ⟨by rfl,?_⟩) ?_;rotate_left;(focus(intro w' hSw;obtain⟨d0,d1,d2,d3,d4⟩:=HVC.out w' (q_next HB8.out hSw);go_simp;(try with_reducible rfl);done));simp only[Act.put,zzA,zzB,zzC])
 refine wpFl_anL rfl (.cells #[.int .i64 0,.int .i64 0,.int .i64 0,.string ⟨#[]⟩,.string ⟨#[]⟩] 27 (0,0)) (fun n=>.pointer (some ⟨n,0,none⟩)) ⟨by rfl,fun w'=>?_⟩ ?_
 focus(go_simp;done)
 refine wpFl_bL rfl (fun wakp2 hnakp2 hsakp2 K hK=>?_)
 go_simp
 go_at_call 25
 (with_reducible refine(HKY.out _).mono ?_)
 rintro e wbkp2 ⟨rfl,hbkp2⟩
 refine hK.out _ _ (q_next hsakp2 hbkp2) (Keeps.below hbkp2) ?_
 clear hK K hnakp2 hsakp2
 refine wpFl_bL rfl (fun wap2 hnap2 hsap2 K hK=>?_)
 go_simp
 go_at_call 23
 (with_reducible refine(HC3.out _ (q_next HB8.out hsap2)).mono ?_)
 rintro e wbp2 ⟨rfl,hbp2⟩
 refine hK.out _ _ (q_next hsap2 hbp2) (Keeps.below hbp2) ?_
 clear hK K hnap2 hsap2
 iterate 3(refine wpFl_qL (v:=?_) rfl (Or.inl ⟨by rfl,?_⟩) ?_;rotate_left;(focus(intro w' hSw;go_simp;(try with_reducible rfl);done));simp only[Act.put,zzA,zzB,zzC])
 refine wpFl_coL rfl (.cells #[.int .i64 0,.int .i64 0,.int .i64 0,.string ⟨#[]⟩,.string ⟨#[]⟩] 27 (0,0)) (fun n=>.pointer (some ⟨n,0,none⟩)) (by rfl) (N':=[]) (by rfl) (fun bp2 wqp2 hn_wqp2 hs_wqp2 hb_bp2 hz_bp2=>?_)
 simp only[Act.put,zzA,zzB,zzC]
 refine wpFl_bL rfl (fun wfp2 hnf hsf K hK=>?_)
 have HZ:=zh (kept_block hz_bp2 hnf)
 obtain⟨z0,z1,z2,z3,z4⟩:=vcellsAt HZ.out
 have zf:∀ j,World.frozen? wfp2 ⟨bp2,j,none⟩=false:=fun j=>by unfold World.frozen?;rw[HZ.out];simp
 go_simp
 have HGp2:=zh (vfive_below hsf hb_bp2 (.int .i64 yc) (.int .i64 yn) (.int .i64 ys) (.string yv) (.string yl))
 have HVp2:=zh (vfive_heap HZ.out (.int .i64 yc) (.int .i64 yn) (.int .i64 ys) (.string yv) (.string yl))
 refine hK.out _ _ HGp2.out Keeps.nil ?_
 clear hK K z0 z1 z2 z3 z4 zf HZ hnf hsf hb_bp2 hz_bp2 hn_wqp2 hs_wqp2
 generalize (((((wfp2.setCell ⟨bp2,0,none⟩ (.int .i64 yc)).setCell ⟨bp2,1,none⟩ (.int .i64 yn)).setCell ⟨bp2,2,none⟩ (.int .i64 ys)).setCell ⟨bp2,3,none⟩ (.string yv)).setCell ⟨bp2,4,none⟩ (.string yl))=w9 at *
 refine wpFl_qL (v:=?_) rfl (Or.inl ⟨by rfl,?_⟩) ?_
 rotate_left
 focus(intro w' hSw;go_simp;(try with_reducible rfl);done)
 simp only[Act.put,zzA,zzB,zzC]
 refine wpFl_nil ?_
 refine NoPanic.normal ?_
 have HB9:=zh (q_next HB8.out HGp2.out)
 go_upto_region 26 with fail
 refine wp_region_noPanic ?_
 refine wp_region_lexB [.q 1,.q 2,.q 3,.q 4,.q 5,.q 6,.q 7,.q 8,.q 9,.q 10,.q 11,.q 12,.an 17,.b 0,.b 13,.q 14,.q 15,.q 16,.co 17,.b 18,.q 19] (by kernel_rfl) (by kernel_rfl) (fun _ _ _ _ h=>h) ?_
 iterate 12(refine wpFl_qL (v:=?_) rfl (Or.inl ⟨by rfl,?_⟩) ?_;rotate_left;(focus(intro w' hSw;obtain⟨d0,d1,d2,d3,d4⟩:=HVC.out w' (q_next HB9.out hSw);go_simp;(try with_reducible rfl);done));simp only[Act.put,zzA,zzB,zzC])
 refine wpFl_anL rfl (.cells #[.int .i64 0,.int .i64 0,.int .i64 0,.string ⟨#[]⟩,.string ⟨#[]⟩] 27 (0,0)) (fun n=>.pointer (some ⟨n,0,none⟩)) ⟨by rfl,fun w'=>?_⟩ ?_
 focus(go_simp;done)
 refine wpFl_bL rfl (fun wakr2 hnakr2 hsakr2 K hK=>?_)
 go_simp
 go_at_call 25
 (with_reducible refine(HKY.out _).mono ?_)
 rintro e wbkr2 ⟨rfl,hbkr2⟩
 refine hK.out _ _ (q_next hsakr2 hbkr2) (Keeps.below hbkr2) ?_
 clear hK K hnakr2 hsakr2
 refine wpFl_bL rfl (fun war2 hnar2 hsar2 K hK=>?_)
 go_simp
 go_at_call 24
 (with_reducible refine(HC4.out _ (q_next HB9.out hsar2)).mono ?_)
 rintro e wbr2 ⟨rfl,hbr2⟩
 refine hK.out _ _ (q_next hsar2 hbr2) (Keeps.below hbr2) ?_
 clear hK K hnar2 hsar2
 iterate 3(refine wpFl_qL (v:=?_) rfl (Or.inl ⟨by rfl,?_⟩) ?_;rotate_left;(focus(intro w' hSw;go_simp;(try with_reducible rfl);done));simp only[Act.put,zzA,zzB,zzC])
 refine wpFl_coL rfl (.cells #[.int .i64 0,.int .i64 0,.int .i64 0,.string ⟨#[]⟩,.string ⟨#[]⟩] 27 (0,0)) (fun n=>.pointer (some ⟨n,0,none⟩)) (by rfl) (N':=[]) (by rfl) (fun br2 wqr2 hn_wqr2 hs_wqr2 hb_br2 hz_br2=>?_)
 simp only[Act.put,zzA,zzB,zzC]
 refine wpFl_bL rfl (fun wfr2 hnf hsf K hK=>?_)
 have HZ:=zh (kept_block hz_br2 hnf)
 obtain⟨z0,z1,z2,z3,z4⟩:=vcellsAt HZ.out
 have zf:∀ j,World.frozen? wfr2 ⟨br2,j,none⟩=false:=fun j=>by unfold World.frozen?;rw[HZ.out];simp
 go_simp
 have HGr2:=zh (vfive_below hsf hb_br2 (.int .i64 yc) (.int .i64 yn) (.int .i64 ys) (.string yv) (.string yl))
 have HVr2:=zh (vfive_heap HZ.out (.int .i64 yc) (.int .i64 yn) (.int .i64 ys) (.string yv) (.string yl))
 refine hK.out _ _ HGr2.out Keeps.nil ?_
 clear hK K z0 z1 z2 z3 z4 zf HZ hnf hsf hb_br2 hz_br2 hn_wqr2 hs_wqr2
 generalize (((((wfr2.setCell ⟨br2,0,none⟩ (.int .i64 yc)).setCell ⟨br2,1,none⟩ (.int .i64 yn)).setCell ⟨br2,2,none⟩ (.int .i64 ys)).setCell ⟨br2,3,none⟩ (.string yv)).setCell ⟨br2,4,none⟩ (.string yl))=w10 at *
 refine wpFl_qL (v:=?_) rfl (Or.inl ⟨by rfl,?_⟩) ?_
 rotate_left
 focus(intro w' hSw;go_simp;(try with_reducible rfl);done)
 simp only[Act.put,zzA,zzB,zzC]
 refine wpFl_nil ?_
 refine NoPanic.normal ?_
 have HB10:=zh (q_next HB9.out HGr2.out)
 clear HC1 HC2 HC3 HC4 HKY
 have HBa:=zh (q_next HGp2.out HGr2.out)
 have HBb:=zh (q_next HGr.out HBa.out)
 have HBc:=zh (q_next HGp.out HBb.out)
 have HD10:=zh (kept_block HVd.out HBc.out)
 have HP10:=zh (kept_block HVp.out HBb.out)
 have HR10:=zh (kept_block HVr.out HBa.out)
 have HP11:=zh (kept_block HVp2.out HGr2.out)
 have HQ1:=zh (fun W (hW:Below wb.heap.size wb W)=>qconvicts_w HE.out HK.out (⟨vc,vn,vs,vv,vl⟩,⟨tc,tn,ts,tv,tl⟩) _ rfl W hW)
 have HQ2:=zh (fun W (hW:Below wb.heap.size wb W)=>rconv19_any (HK.out.below hW) hks.out (⟨vc,vn,vs,vv,vl⟩,⟨tc,tn,ts,tv,tl⟩))
 generalize convictsV ks (⟨vc,vn,vs,vv,vl⟩,⟨tc,tn,ts,tv,tl⟩)=g3 at *
 unfold dagg at HQ1 HQ2
 simp only at HQ1 HQ2
 have HN1:=zh (fun W=>neqVote ⟨xc,xn,xs,xv,xl⟩ ⟨xc,xn,xs,xv,xl⟩ W)
 have HN2:=zh (fun W=>neqVote ⟨yc,yn,ys,yv,yl⟩ ⟨yc,yn,ys,yv,yl⟩ W)
 rw[decide_eq_true rfl]at HN1 HN2
 unfold vagg at HN1 HN2
 simp only at HN1 HN2
 have hn1:=HN1.out
 have hn2:=HN2.out
 clear HVd HVp HVr HVp2 HBa HBb HBc HGp HGr HGp2 HGr2 HVC HTC HB5 HB6 HB7 HB8 HB9 HBd
 go_upto_region 27 with fail
 refine wp_region_noPanic ?_
 refine wp_region_lexB [.q 0,.q 1,.q 3,.q 4,.b 2,.b 5,.q 6,.q 7,.q 8,.q 9,.q 10,.q 11,.q 12,.q 13,.q 14,.q 15,.q 16,.q 17,.q 18,.q 19,.q 20,.q 21,.q 22,.q 23,.q 24,.q 25,.q 26] (by kernel_rfl) (by kernel_rfl) (fun _ _ _ _ h=>h) ?_
 iterate 4(refine wpFl_qL (v:=?_) rfl (Or.inl ⟨by rfl,?_⟩) ?_;rotate_left;(focus(intro w' hSw;have c0:=HC.out w' (q_next HB10.out hSw);obtain⟨⟨d0,d1,d2,d3,d4⟩,d5,d6,d7,d8,d9⟩:=ten_cells (kept_block HD10.out hSw);obtain⟨e0,e1,e2,e3,e4⟩:=vcellsAt (kept_block HP10.out hSw);obtain⟨f0,f1,f2,f3,f4⟩:=vcellsAt (kept_block HR10.out hSw);obtain⟨g0,g1',g2',g3',g4⟩:=vcellsAt (kept_block HP11.out hSw);obtain⟨h0,h1,h2,h3,h4⟩:=vcellsAt (kept_block HVr2.out hSw);go_simp;(try with_reducible rfl);done));simp only[Act.put,zzA,zzB,zzC])
 refine wpFl_bL rfl (fun wa7 hna7 hsa7 K hK=>?_)
 go_simp
 go_at_call 26
 (with_reducible refine(HQ1.out _ (q_next HB10.out hsa7)).mono ?_)
 rintro e wb7 ⟨rfl,hb7⟩
 refine hK.out _ _ (q_next hsa7 hb7) (Keeps.below hb7) ?_
 clear hK K hna7 hsa7
 refine wpFl_bL rfl (fun wa8 hna8 hsa8 K hK=>?_)
 go_simp
 go_at_call 27
 (with_reducible refine(HQ2.out _ (q_next HB10.out hsa8)).mono ?_)
 rintro e wb8 ⟨rfl,hb8⟩
 have HS8:=zh (q_next hsa8 hb8)
 refine hK.out _ _ (q_next hsa8 hb8) (Keeps.below hb8) ?_
 clear hK K hna8 hsa8
 iterate 21(refine wpFl_qL (v:=?_) rfl (Or.inl ⟨by rfl,?_⟩) ?_;rotate_left;(focus(intro w' hSw;have c0:=HC.out w' (q_next HB10.out hSw);obtain⟨⟨d0,d1,d2,d3,d4⟩,d5,d6,d7,d8,d9⟩:=ten_cells (kept_block HD10.out hSw);obtain⟨e0,e1,e2,e3,e4⟩:=vcellsAt (kept_block HP10.out hSw);obtain⟨f0,f1,f2,f3,f4⟩:=vcellsAt (kept_block HR10.out hSw);obtain⟨g0,g1',g2',g3',g4⟩:=vcellsAt (kept_block HP11.out hSw);obtain⟨h0,h1,h2,h3,h4⟩:=vcellsAt (kept_block HVr2.out hSw);go_simp;(try with_reducible rfl);done));simp only[Act.put,zzA,zzB,zzC])
 refine wpFl_nil ?_
 refine NoPanic.normal ?_
 go_wp2
 exact HQ.out _ _ _ _ _ _ _ _ _ _ _ _ _ _ _ _ _ _ _ _ _ _ _ _ _ _ _ _ _ _ _ _ _ _ _ _ _ _ _ _ _ _ _ _ _ _ _ _ _ _ _ _ _ _ _ _ _ _ _ _ _ _ _ _ _ _ _ _ _ _ _ _ _ _ _ _ _ _ _ _ _ _ _ _ _ _ _ _ _ _ _ _ _ _ _ _ _ _ _ _ _ _ _ _ _ _ _ _ _ _ _ _ _ _ _ _ _ _ _ _ _ _ (zh (q_next HB10.out HS8.out))
theorem VS.eachAt {w:World}{a:Option Addr}{n c:Nat}{l:List VoteP}(h:VS w (.slice a n c) l){k:Nat}{v:VoteP}(hk:l[k]?=some v):∃ b off,a=some ⟨b,off,none⟩∧b < w.heap.size∧VAt w b (off+k*5) v:=by
 obtain⟨a',c',e,_,_,h3⟩:=h.opened
 injection e with e1 _ _
 subst e1
 exact h3 k v hk
def rtQN3 (c:Code):Code:=rtQ (rtQ (rtQ (rtQ (rtQ (rtQ (rtQ (rtQ (rtQ (rtQ (rtQ (rtQ (rtQ (c)))))))))))))
theorem tailQN3 {c L:Code}(h:∃ a0 a1 a2 a3 a4 a5 a6 a7 a8 a9 a10 a11 a12:Code,Tryz.f3.body=some (a0.seq (a1.seq (a2.seq (a3.seq (a4.seq (a5.seq (a6.seq (a7.seq (a8.seq (a9.seq (a10.seq (a11.seq (a12.seq (c)))))))))))))))(hL:Tryz.f3.body.map rtQN3=some L:=by rfl):c=L:=by
 obtain⟨a0,a1,a2,a3,a4,a5,a6,a7,a8,a9,a10,a11,a12,e⟩:=h
 rw[e]at hL
 exact Option.some.inj hL
set_option maxHeartbeats 16000000 in
set_option maxRecDepth 100000 in
theorem mref_votes {w wb:World}(HBW:Hid (Below w.heap.size w wb))(HE:Hid (QEnv wb))(bc bs bh m kc k sn sc:Nat)(ka sa:Option Addr)(ks ss:List ByteArray)(vp vo:Value)(P O:List VoteP)(hk:k < O.length)(num stp value which:Int)(u text key:ByteArray)(iw:I64 which)(hm:m=ks.length)(hks:Hid (∀ k∈ks,k.size≤1000))(hm2:m≤1000)(hss:Hid (∀ k∈ss,k.size≤1000))
  (HK:Hid (SS wb (.slice ka m kc) ks)) (HS:Hid (SS wb (.slice sa sn sc) ss)) (HP:Hid (VS wb vp P)) (HO:Hid (VS wb vo O)) (HC:Hid (∀ W,Below wb.heap.size wb W→W.cell? ⟨bc,0,none⟩=some (.slice ka m kc)∧W.cell? ⟨bs,0,none⟩=some (.int .i64 num)∧W.cell? ⟨bs,1,none⟩=some (.int .i64 stp))) (HCS:Hid (∀ W,Below wb.heap.size wb W→W.cell? ⟨bh,0,none⟩=some (.slice sa sn sc))) {u0 u1 u2 u5 u6 u9 u10 u11 u12 u13 u14 u15 u16 u17 u18 u27 u28 u29 u30 u31 u32 u33 u34 u35 u36 u37 u38 u39 u40 u41 u42 u43 u44 u45 u46 u47 u48 u49 u50 u51 u52 u53 u54 u55 u56 u57 u58 u59 u60 u61 u62 u63 u64 u65 u66 u67 u68 u69 u70 u71 u72 u73 u74 u75 u76 u77 u78 u79 u80 u81 u82 u83 u84 u85 u86 u87 u88 u89 u90 u91 u92 u93 u94 u95 u96 u97 u98 u99 u100 u101 u102 u103 u104 u105 u106 u107 u108 u109 u110 u111 u112 u113 u114 u115 u116 u117 u118 u119 u120 u121 u122 u123 u124 u125 u126 u127 u128 u129 u130 u131 u132 u133 u134 u135 u136 u137 u138 u139 u140 u141 u142 u143 u144 u145 u146 u147 u148 u149 u150 u151 u152 u153 u154 u155 u156 u157 u158 u159 u160 u161 u162 u163 u164 u165 u166 u167 u168 u169 u170 u171 u172 u173 u174 u175 u176 u177 u178 u179 u180 u181 u182 u183 u184 u185 u186 u187 u188 u189 u190 u191 u192 u193 u194 u195 u196 u197 u198 u199 u200 u201 u202 u203 u204 u205 u206 u207 u208 u209 u210 u211 u212 u213 u214 u215 u216 u217 u218 u219 u220 u221 u222 u223 u224 u225 u226 u227 u228 u229 u230 u231 u232 u233 u234 u235 u236 u237 u238 u239 u240 u241 u242 u243 u244 u245 u246 u247 u248 u249 u250 u251 u252 u253 u254 u255 u256 u257 u258 u259 u260 u261 u262 u263 u264 u265 u266 u267 u268 u269 u270 u271 u272 u273 u274 u275 u276 u277 u278 u279 u280 u281 u282 u283 u284 u285 u286 u287 u288 u289 u290 u291 u292 u293 u294 u295 u296 u297 u298 u299 u300 u301 u302 u303 u304 u305 u306 u307 u308 u309 u310 u311 u312 u313 u314 u315 u316 u317 u318 u319 u320 u321 u322 u323 u324 u325 u326 u327 u328 u329 u330 u331 u332 u333 u334 u335 u336 u337 u338 u339 u340 u341 u342 u343 u344 u345 u346 u347 u348 u349 u350 u351 u352 u353 u354 u355 u356 u357 u358 u359 u360 u361 u362 u363 u364 u365 u366 u367 u368 u369 u370 u371 u372 u373 u374 u375 u376 u377 u378 u379 u380 u381 u382 u383 u384 u385 u386 u387 u388 u389 u390 u391 u392 u393 u394 u395 u396 u397 u398 u399 u400 u401 u402 u403 u404 u405 u406 u407 u408 u409 u410 u411 u412 u413 u414 u415 u416 u417 u418 u419 u420 u421 u422 u423 u424 u425 u426 u427 u428 u429 u430 u431 u432 u433 u434 u435 u436 u437 u438 u439:Value} :
  ∃ c:Code,(∃ a0 a1 a2 a3 a4 a5 a6 a7 a8 a9 a10 a11 a12:Code,Tryz.f3.body=some (a0.seq (a1.seq (a2.seq (a3.seq (a4.seq (a5.seq (a6.seq (a7.seq (a8.seq (a9.seq (a10.seq (a11.seq (a12.seq (c)))))))))))))))∧c.wp Tryz.prog (bodyPost Tryz.prog Tryz.f3 fun e w'=>e=.returned (.bool true)∧Below w.heap.size w w') { tmps:=#[u0,u1,u2,.int .i64 value,.int .i64 which,u5,u6,.string text,.string key,u9,u10,u11,u12,u13,u14,u15,u16,u17,u18,.bool true,.pointer (some ⟨bc,0,none⟩),.pointer (some ⟨bs,0,none⟩),.string u,vp,vo,.int .i64 (k:Int),.pointer (some ⟨bh,0,none⟩),u27,u28,u29,u30,u31,u32,u33,u34,u35,u36,u37,u38,u39,u40,u41,u42,u43,u44,u45,u46,u47,u48,u49,u50,u51,u52,u53,u54,u55,u56,u57,u58,u59,u60,u61,u62,u63,u64,u65,u66,u67,u68,u69,u70,u71,u72,u73,u74,u75,u76,u77,u78,u79,u80,u81,u82,u83,u84,u85,u86,u87,u88,u89,u90,u91,u92,u93,u94,u95,u96,u97,u98,u99,u100,u101,u102,u103,u104,u105,u106,u107,u108,u109,u110,u111,u112,u113,u114,u115,u116,u117,u118,u119,u120,u121,u122,u123,u124,u125,u126,u127,u128,u129,u130,u131,u132,u133,u134,u135,u136,u137,u138,u139,u140,u141,u142,u143,u144,u145,u146,u147,u148,u149,u150,u151,u152,u153,u154,u155,u156,u157,u158,u159,u160,u161,u162,u163,u164,u165,u166,u167,u168,u169,u170,u171,u172,u173,u174,u175,u176,u177,u178,u179,u180,u181,u182,u183,u184,u185,u186,u187,u188,u189,u190,u191,u192,u193,u194,u195,u196,u197,u198,u199,u200,u201,u202,u203,u204,u205,u206,u207,u208,u209,u210,u211,u212,u213,u214,u215,u216,u217,u218,u219,u220,u221,u222,u223,u224,u225,u226,u227,u228,u229,u230,u231,u232,u233,u234,u235,u236,u237,u238,u239,u240,u241,u242,u243,u244,u245,u246,u247,u248,u249,u250,u251,u252,u253,u254,u255,u256,u257,u258,u259,u260,u261,u262,u263,u264,u265,u266,u267,u268,u269,u270,u271,u272,u273,u274,u275,u276,u277,u278,u279,u280,u281,u282,u283,u284,u285,u286,u287,u288,u289,u290,u291,u292,u293,u294,u295,u296,u297,u298,u299,u300,u301,u302,u303,u304,u305,u306,u307,u308,u309,u310,u311,u312,u313,u314,u315,u316,u317,u318,u319,u320,u321,u322,u323,u324,u325,u326,u327,u328,u329,u330,u331,u332,u333,u334,u335,u336,u337,u338,u339,u340,u341,u342,u343,u344,u345,u346,u347,u348,u349,u350,u351,u352,u353,u354,u355,u356,u357,u358,u359,u360,u361,u362,u363,u364,u365,u366,u367,u368,u369,u370,u371,u372,u373,u374,u375,u376,u377,u378,u379,u380,u381,u382,u383,u384,u385,u386,u387,u388,u389,u390,u391,u392,u393,u394,u395,u396,u397,u398,u399,u400,u401,u402,u403,u404,u405,u406,u407,u408,u409,u410,u411,u412,u413,u414,u415,u416,u417,u418,u419,u420,u421,u422,u423,u424,u425,u426,u427,u428,u429,u430,u431,u432,u433,u434,u435,u436,u437,u438,u439],defers:=[] } wb:=by
 refine⟨_,⟨_,_,_,_,_,_,_,_,_,_,_,_,_,rfl⟩,?_⟩
 obtain⟨oa,oc,rfl,hol,hom,-⟩:=HO.out.opened
 have HKL:=zh (And.intro hm hm2)
 clear hm hm2
 obtain⟨N,hN⟩:∃ N,N=O.length:=⟨_,rfl⟩
 rw[← hN]at hk hol HO ⊢
 have HN:=zh hN
 have hN9:N≤9223372036854775807:=by unfold maxLen at hom;omega
 obtain⟨t,et⟩:∃ t,O[k]?=some t:=⟨_,List.getElem?_eq_getElem (by rw[← HN.out];exact hk)⟩
 obtain⟨lb,lo,rfl,hlb,htv⟩:=HO.out.eachAt et
 have HTC:Hid (∀ W,Below wb.heap.size wb W→VAt W lb (lo+k*5) t):=zh (fun W hW=>htv.keep hW hlb)
 clear hN hol hom et htv
 go_wp2
 go_loopw [28] (fun i wr=>∃ j:Nat,j≤N∧i=.int .i64 j∧Hid (Below wb.heap.size wb wr)) (fun i _=>N - (intOf i).toNat)
 case atStart=>exact⟨0,by omega,rfl,zh br0⟩
 case round =>
  obtain⟨j,hj,rfl,hB⟩:=hrel
  by_cases hlt:j < N
  ·have tk:(j:Int) < (N:Int):=by omega
   have tk0:(0:Int)≤(j:Int):=by omega
   have hk0:(0:Int)≤(k:Int):=by omega
   have hk1:(k:Int) < (N:Int):=by omega
   obtain⟨v,ev⟩:∃ v,O[j]?=some v:=⟨_,List.getElem?_eq_getElem (by rw[← HN.out];exact hlt)⟩
   have HVC:Hid (∀ W,Below wb.heap.size wb W→VAt W lb (lo+j*5) v):=zh (fun W hW=>by
    obtain⟨b',o',e,h1,h2⟩:=HO.out.eachAt ev
    injection e with e
    injection e with e1 e2 _
    subst e1 e2
    exact h2.keep hW h1)
   obtain⟨S,er,hS,-⟩:=encR_is v
   have HE1:=zh (fun W=>enc_any v _ rfl W)
   have HE2:=zh (fun W=>renc_any v _ rfl W)
   rw[hS]at HE1 HE2
   have HG1:Hid (∀ W,Below wb.heap.size wb W→Calls Tryz.prog 21 #[.agg #[.slice ka m kc],vagg v] W fun e w'=>e=.returned (.bool (genuineV ks v))∧Below W.heap.size W w'):=zh (fun W hW=>qgen_w HE.out HK.out v _ rfl W hW)
   have HG2:Hid (∀ W,Below wb.heap.size wb W→Calls Tryz.prog 21 #[.agg #[.slice sa sn sc],vagg v] W fun e w'=>e=.returned (.bool (genuineV ss v))∧Below W.heap.size W w'):=zh (fun W hW=>qgen_w HE.out HS.out v _ rfl W hW)
   have HR1:Hid (∀ W,Below wb.heap.size wb W→Calls Tryz.prog 22 #[.agg #[.slice ka m kc],vagg v] W fun e w'=>e=.returned (.bool (genuineV ks v))∧Below W.heap.size W w'):=zh (fun W hW=>rgen19_any (HK.out.below hW) hks.out v)
   have HR2:Hid (∀ W,Below wb.heap.size wb W→Calls Tryz.prog 22 #[.agg #[.slice sa sn sc],vagg v] W fun e w'=>e=.returned (.bool (genuineV ss v))∧Below W.heap.size W w'):=zh (fun W hW=>rgen19_any (HS.out.below hW) hss.out v)
   generalize genuineV ks v=g1 at *
   generalize genuineV ss v=g2 at *
   clear hS ev
   obtain⟨vc,vn,vs,vv,vl⟩:=v
   unfold vagg at HE1 HE2 HG1 HG2 HR1 HR2
   simp only at HE1 HE2 HG1 HG2 HR1 HR2
   unfold VAt at HVC
   simp only at HVC
   obtain⟨d0,d1,d2,d3,d4⟩:=HVC.out wr hB.out
   go_upto_region 19 with(go_at_call 19;(with_reducible refine(HE1.out _).mono ?_);clear d0 d1 d2 d3 d4;rintro e w3 ⟨rfl,hb3⟩;have HB3:=zh (q_next hB.out hb3);obtain⟨d0,d1,d2,d3,d4⟩:=HVC.out w3 HB3.out)
   go_upto_region 20 with(go_at_call 20;(with_reducible refine(HE2.out _).mono ?_);clear d0 d1 d2 d3 d4;rintro e w4 ⟨rfl,hb4⟩;have HB4:=zh (q_next HB3.out hb4))
   clear hb3 hb4 HE1 HE2
   go_cut [210] (fun t wx=>t=.bool false∧Hid (Below w4.heap.size w4 wx))
   case first =>
    refine wp_region_noPanic ?_
    refine wp_region_lexB [.q 0,.q 1,.q 2,.q 3,.q 4,.q 5,.q 6,.q 7,.q 8,.q 9,.q 10,.q 11,.q 12,.q 13,.q 15,.q 16,.q 17,.q 18,.q 19,.b 14,.b 20,.q 21,.q 22,.q 23,.q 24,.q 25,.q 26,.q 27,.q 28,.q 30,.q 31,.q 32,.q 33,.q 34,.b 29,.b 35,.q 36,.q 37] (by kernel_rfl) (by kernel_rfl) (fun _ _ _ _ h=>h) ?_
    iterate 19(refine wpFl_qL (v:=?_) rfl (Or.inl ⟨by rfl,?_⟩) ?_;rotate_left;(focus(intro w' hSw;have x0:=(HC.out w' (q_next HB4.out hSw)).1;have y0:=HCS.out w' (q_next HB4.out hSw);obtain⟨d0,d1,d2,d3,d4⟩:=HVC.out w' (q_next HB4.out hSw);go_simp;(try with_reducible rfl);done));simp only[Act.put,zzA,zzB,zzC])
    refine wpFl_bL rfl (fun wa1 hna1 hsa1 K hK=>?_)
    go_simp
    go_at_call 21
    (with_reducible refine(HG1.out _ (q_next HB4.out hsa1)).mono ?_)
    rintro e wb1 ⟨rfl,hb1⟩
    refine hK.out _ _ (q_next hsa1 hb1) (Keeps.below hb1) ?_
    clear hK K hna1 hsa1
    refine wpFl_bL rfl (fun wa2 hna2 hsa2 K hK=>?_)
    go_simp
    go_at_call 22
    (with_reducible refine(HR1.out _ (q_next HB4.out hsa2)).mono ?_)
    rintro e wb2 ⟨rfl,hb2⟩
    refine hK.out _ _ (q_next hsa2 hb2) (Keeps.below hb2) ?_
    clear hK K hna2 hsa2
    iterate 13(refine wpFl_qL (v:=?_) rfl (Or.inl ⟨by rfl,?_⟩) ?_;rotate_left;(focus(intro w' hSw;have x0:=(HC.out w' (q_next HB4.out hSw)).1;have y0:=HCS.out w' (q_next HB4.out hSw);obtain⟨d0,d1,d2,d3,d4⟩:=HVC.out w' (q_next HB4.out hSw);go_simp;(try with_reducible rfl);done));simp only[Act.put,zzA,zzB,zzC])
    refine wpFl_bL rfl (fun wa3 hna3 hsa3 K hK=>?_)
    go_simp
    go_at_call 21
    (with_reducible refine(HG2.out _ (q_next HB4.out hsa3)).mono ?_)
    rintro e wb3 ⟨rfl,hb3⟩
    refine hK.out _ _ (q_next hsa3 hb3) (Keeps.below hb3) ?_
    clear hK K hna3 hsa3
    refine wpFl_bL rfl (fun wa4 hna4 hsa4 K hK=>?_)
    go_simp
    go_at_call 22
    (with_reducible refine(HR2.out _ (q_next HB4.out hsa4)).mono ?_)
    rintro e wb4 ⟨rfl,hb4⟩
    have HS4:=zh (q_next hsa4 hb4)
    refine hK.out _ _ (q_next hsa4 hb4) (Keeps.below hb4) ?_
    clear hK K hna4 hsa4
    iterate 2(refine wpFl_qL (v:=?_) rfl (Or.inl ⟨by rfl,?_⟩) ?_;rotate_left;(focus(intro w' hSw;go_simp;(try with_reducible rfl);done));simp only[Act.put,zzA,zzB,zzC])
    refine wpFl_nil ?_
    refine NoPanic.normal ?_
    go_wp2
    go_meet
    case rel=>exact⟨rfl,HS4⟩
   case rest =>
   obtain⟨ht210,HS4⟩:=hcut
   subst ht210
   obtain⟨w5,hw5⟩:∃ W,W=wc:=⟨_,rfl⟩
   rw[← hw5]at HS4 ⊢
   clear hw5 wc HG1 HG2 HR1 HR2
   have HB5:=zh (q_next HB4.out HS4.out)
   clear HS4 HB4 HB3
   rename_i hKK
   refine hKK _ _ ?_
   iterate 4 go_step
   have HCk:=zh (fun W hW=>(HC.out W hW).1)
   refine wp_of_ex (mref_casts HB5 HE bc m kc k j N oc lb lo ka ks vp P ⟨vc,vn,vs,vv,vl⟩ t tk0 tk hk0 hk1 hN9 u key hks HK HP HCk HVC HTC ?_) (fun c hc=>tailQN6 hc)
   intro y33 y34 y35 y36 y37 y38 y39 y40 y41 y211 y212 y213 y214 y215 y216 y217 y218 y219 y220 y221 y222 y223 y224 y225 y226 y227 y228 y229 y230 y231 y232 y233 y234 y235 y236 y237 y238 y239 y240 y241 y242 y243 y244 y245 y246 y247 y248 y249 y250 y251 y252 y253 y254 y255 y256 y257 y258 y259 y260 y261 y262 y263 y264 y265 y266 y267 y268 y269 y270 y271 y272 y273 y274 y275 y276 y277 y278 y279 y280 y281 y282 y283 y284 y285 y286 y287 y288 y289 y290 y291 y292 y293 y294 y295 y296 y297 y298 y299 y300 y301 y302 y303 y304 y305 y306 y307 y308 y309 y310 y311 y312 y313 y314 y315 y316 y317 y318 y319 y320 y321 y322 wz HBz
   clear HCk HVC HTC
   go_wp2
   go_roundw
   case rel=>exact⟨j+1,by omega,by go_num,HBz⟩
   case measure=>simp[intOf];omega
  ·obtain rfl:j=N:=by omega
   have tk:¬ (j:Int) < (j:Int):=by omega
   have HBZ:=zh (HBW.out.trans (hB.out.mono HBW.out.size))
   have HEZ:=zh (HE.out.step hB.out)
   have HKZ:=zh (HK.out.below hB.out)
   have HPZ:=zh (HP.out.below hB.out)
   have HOZ:=zh (HO.out.below hB.out)
   have HCZ:=zh (fun W hW=>HC.out W (q_next hB.out hW))
   iterate 25 go_step
   refine wp_of_eqM (mref_codes HBZ HEZ bc bs m kc k ka ks vp (.slice (some ⟨lb,lo,none⟩) j oc) P O (by rw[← HN.out];exact hk) num stp value which u text iw HKL.out.1 hks HKL.out.2 HKZ HPZ HOZ HCZ).choose_spec.2 ?_
   exact tailQN2 (mref_codes HBZ HEZ bc bs m kc k ka ks vp (.slice (some ⟨lb,lo,none⟩) j oc) P O (by rw[← HN.out];exact hk) num stp value which u text iw HKL.out.1 hks HKL.out.2 HKZ HPZ HOZ HCZ).choose_spec.1
end Go.Proofs.YtggdcnjaofflbaaGreatDoor
