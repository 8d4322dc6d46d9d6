/- Walk of the law: QuorumMatchesReference, from the shortened committee on. The conditions: what the boxes hold, lengths. -/
import Derived.Test.YtggdcnjaofflbaaGreatDoorMM27
import Derived.Test.YtggdcnjaofflbaaGreatDoorMM32
namespace Go.Proofs.YtggdcnjaofflbaaGreatDoor
open Go.RowKit Go.BigFrame
theorem OwnS.zeroN {w:World}{b base:Nat}(h:w.heap[b]?=some (.cells #[] 9 (0,0)))(hb:base≤b):OwnS w base (.slice (some ⟨b,0,none⟩) 0 0) [] :=
 ⟨rfl,.inr ⟨b,0,#[],rfl,hb,h,Nat.le_refl _,by decide,rfl,rfl⟩⟩
theorem Keeps.zeroN {base b:Nat}{N:List Ann}{w w':World}{T:TypeId}(hz:w.heap[b]?=some (.cells #[] T (0,0)))(hg:w.grownBy w' (some b))(hN:∀ x∈N,x.2.1≠.cells #[] T (0,0)):Keeps base N w w':=fun x hx i _ h=>by
 refine(hg.block i (ltA h) ?_).trans h
 intro e
 obtain rfl:i=b:=Option.some.inj e
 rw[hz]at h
 exact hN x hx (Option.some.inj h).symm
def rtQN5 (c:Code):Code:=rtQ (rtQ (rtQ (rtQ (rtQ (rtQ (rtQ (rtQ (rtQ (rtQ (c))))))))))
theorem tailQN5 {c L:Code}(h:∃ a0 a1 a2 a3 a4 a5 a6 a7 a8 a9:Code,Tryz.f3.body=some (a0.seq (a1.seq (a2.seq (a3.seq (a4.seq (a5.seq (a6.seq (a7.seq (a8.seq (a9.seq (c))))))))))))(hL:Tryz.f3.body.map rtQN5=some L:=by rfl):c=L:=by
 obtain⟨a0,a1,a2,a3,a4,a5,a6,a7,a8,a9,e⟩:=h
 rw[e]at hL
 exact Option.some.inj hL
set_option maxHeartbeats 16000000 in
set_option maxRecDepth 100000 in
theorem mref_short {w wo:World}(HBWo:Hid (Below w.heap.size w wo))(HEO:Hid (QEnv wo))(bc bs rb m kc k:Nat)(ka:Option Addr)(ks:List ByteArray)(vp vo:Value)(PL OD:List VoteP)(hjo:k < OD.length)(num stp value which rc rn rs:Int)(u text key rv rl:ByteArray)(iw:I64 which)(hml:ks.length=m)(hm4:1≤m)(hm7:m≤1000)(hpl:PL.length≤30)(hol:OD.length≤31)(hus2:u.size≤maxLen)(hrv:rv.size≤maxLen)(HKS:Hid (∀ k∈ks,k.size≤1000))
  (HKO:Hid (SS wo (.slice ka m kc) ks)) (HVP:Hid (VS wo vp PL)) (HVO:Hid (VS wo vo OD)) (HCO:Hid (∀ W,Below wo.heap.size wo W→W.cell? ⟨bc,0,none⟩=some (.slice ka m kc)∧W.cell? ⟨bs,0,none⟩=some (.int .i64 num)∧W.cell? ⟨bs,1,none⟩=some (.int .i64 stp)))
  (HRO:Hid (∀ W,Below wo.heap.size wo W→W.cell? ⟨rb,0,none⟩=some (.int .i64 rc)∧W.cell? ⟨rb,1,none⟩=some (.int .i64 rn)∧W.cell? ⟨rb,2,none⟩=some (.int .i64 rs)∧W.cell? ⟨rb,3,none⟩=some (.string rv)∧W.cell? ⟨rb,4,none⟩=some (.string rl))) {u0 u1 u2 u5 u6 u9 u10 u11 u12 u13 u14 u16 u17 u18 u26 u27 u28 u29 u30 u31 u32 u33 u34 u35 u36 u37 u38 u39 u40 u41 u42 u43 u44 u45 u46 u47 u48 u49 u50 u51 u52 u53 u54 u55 u56 u57 u58 u59 u60 u61 u62 u63 u64 u65 u66 u67 u68 u69 u70 u71 u72 u73 u74 u75 u76 u77 u78 u79 u80 u81 u82 u83 u84 u85 u86 u87 u88 u89 u90 u91 u92 u93 u94 u95 u96 u97 u98 u99 u100 u101 u102 u103 u104 u105 u106 u107 u108 u109 u110 u111 u112 u113 u114 u115 u116 u117 u118 u119 u120 u121 u122 u123 u124 u125 u126 u127 u128 u129 u130 u131 u132 u133 u134 u135 u136 u137 u138 u139 u140 u141 u142 u143 u144 u145 u146 u147 u148 u149 u150 u151 u152 u153 u154 u155 u156 u157 u158 u159 u160 u161 u162 u163 u164 u165 u166 u167 u168 u169 u170 u171 u172 u173 u174 u175 u176 u177 u178 u179 u180 u181 u182 u183 u184 u185 u186 u187 u188 u189 u190 u191 u192 u193 u194 u195 u196 u197 u198 u199 u200 u201 u202 u203 u204 u205 u206 u207 u208 u209 u210 u211 u212 u213 u214 u215 u216 u217 u218 u219 u220 u221 u222 u223 u224 u225 u226 u227 u228 u229 u230 u231 u232 u233 u234 u235 u236 u237 u238 u239 u240 u241 u242 u243 u244 u245 u246 u247 u248 u249 u250 u251 u252 u253 u254 u255 u256 u257 u258 u259 u260 u261 u262 u263 u264 u265 u266 u267 u268 u269 u270 u271 u272 u273 u274 u275 u276 u277 u278 u279 u280 u281 u282 u283 u284 u285 u286 u287 u288 u289 u290 u291 u292 u293 u294 u295 u296 u297 u298 u299 u300 u301 u302 u303 u304 u305 u306 u307 u308 u309 u310 u311 u312 u313 u314 u315 u316 u317 u318 u319 u320 u321 u322 u323 u324 u325 u326 u327 u328 u329 u330 u331 u332 u333 u334 u335 u336 u337 u338 u339 u340 u341 u342 u343 u344 u345 u346 u347 u348 u349 u350 u351 u352 u353 u354 u355 u356 u357 u358 u359 u360 u361 u362 u363 u364 u365 u366 u367 u368 u369 u370 u371 u372 u373 u374 u375 u376 u377 u378 u379 u380 u381 u382 u383 u384 u385 u386 u387 u388 u389 u390 u391 u392 u393 u394 u395 u396 u397 u398 u399 u400 u401 u402 u403 u404 u405 u406 u407 u408 u409 u410 u411 u412 u413 u414 u415 u416 u417 u418 u419 u420 u421 u422 u423 u424 u425 u426 u427 u428 u429 u430 u431 u432 u433 u434 u435 u436 u437 u438 u439:Value} :
  ∃ c:Code,(∃ a0 a1 a2 a3 a4 a5 a6 a7 a8 a9:Code,Tryz.f3.body=some (a0.seq (a1.seq (a2.seq (a3.seq (a4.seq (a5.seq (a6.seq (a7.seq (a8.seq (a9.seq (c))))))))))))∧c.wp Tryz.prog (bodyPost Tryz.prog Tryz.f3 fun e w'=>e=.returned (.bool true)∧Below w.heap.size w w') { tmps:=#[u0,u1,u2,.int .i64 value,.int .i64 which,u5,u6,.string text,.string key,u9,u10,u11,u12,u13,u14,.pointer (some ⟨rb,0,none⟩),u16,u17,u18,.bool true,.pointer (some ⟨bc,0,none⟩),.pointer (some ⟨bs,0,none⟩),.string u,vp,vo,.int .i64 (k:Int),u26,u27,u28,u29,u30,u31,u32,u33,u34,u35,u36,u37,u38,u39,u40,u41,u42,u43,u44,u45,u46,u47,u48,u49,u50,u51,u52,u53,u54,u55,u56,u57,u58,u59,u60,u61,u62,u63,u64,u65,u66,u67,u68,u69,u70,u71,u72,u73,u74,u75,u76,u77,u78,u79,u80,u81,u82,u83,u84,u85,u86,u87,u88,u89,u90,u91,u92,u93,u94,u95,u96,u97,u98,u99,u100,u101,u102,u103,u104,u105,u106,u107,u108,u109,u110,u111,u112,u113,u114,u115,u116,u117,u118,u119,u120,u121,u122,u123,u124,u125,u126,u127,u128,u129,u130,u131,u132,u133,u134,u135,u136,u137,u138,u139,u140,u141,u142,u143,u144,u145,u146,u147,u148,u149,u150,u151,u152,u153,u154,u155,u156,u157,u158,u159,u160,u161,u162,u163,u164,u165,u166,u167,u168,u169,u170,u171,u172,u173,u174,u175,u176,u177,u178,u179,u180,u181,u182,u183,u184,u185,u186,u187,u188,u189,u190,u191,u192,u193,u194,u195,u196,u197,u198,u199,u200,u201,u202,u203,u204,u205,u206,u207,u208,u209,u210,u211,u212,u213,u214,u215,u216,u217,u218,u219,u220,u221,u222,u223,u224,u225,u226,u227,u228,u229,u230,u231,u232,u233,u234,u235,u236,u237,u238,u239,u240,u241,u242,u243,u244,u245,u246,u247,u248,u249,u250,u251,u252,u253,u254,u255,u256,u257,u258,u259,u260,u261,u262,u263,u264,u265,u266,u267,u268,u269,u270,u271,u272,u273,u274,u275,u276,u277,u278,u279,u280,u281,u282,u283,u284,u285,u286,u287,u288,u289,u290,u291,u292,u293,u294,u295,u296,u297,u298,u299,u300,u301,u302,u303,u304,u305,u306,u307,u308,u309,u310,u311,u312,u313,u314,u315,u316,u317,u318,u319,u320,u321,u322,u323,u324,u325,u326,u327,u328,u329,u330,u331,u332,u333,u334,u335,u336,u337,u338,u339,u340,u341,u342,u343,u344,u345,u346,u347,u348,u349,u350,u351,u352,u353,u354,u355,u356,u357,u358,u359,u360,u361,u362,u363,u364,u365,u366,u367,u368,u369,u370,u371,u372,u373,u374,u375,u376,u377,u378,u379,u380,u381,u382,u383,u384,u385,u386,u387,u388,u389,u390,u391,u392,u393,u394,u395,u396,u397,u398,u399,u400,u401,u402,u403,u404,u405,u406,u407,u408,u409,u410,u411,u412,u413,u414,u415,u416,u417,u418,u419,u420,u421,u422,u423,u424,u425,u426,u427,u428,u429,u430,u431,u432,u433,u434,u435,u436,u437,u438,u439],defers:=[] } wo:=by
 refine⟨_,⟨_,_,_,_,_,_,_,_,_,_,rfl⟩,?_⟩
 obtain⟨kb,ko,hka⟩:∃ kb ko,ka=some ⟨kb,ko,none⟩:=by
  obtain⟨b,o,h,-⟩:=(SS.cellsC HKO.out).2 0 _ (List.getElem?_eq_getElem (by rw[hml];omega))
  exact⟨b,o,h⟩
 subst hka
 obtain⟨k1,hk1v⟩:∃ k1:Nat,k1=if kc=1 then ko else ko+1:=⟨_,rfl⟩
 have HK1:=zh hk1v
 have HKD:Hid (SS wo (.slice (some ⟨kb,k1,none⟩) (m - 1) (kc - 1)) (ks.drop 1)):=zh (by
  by_cases hq:kc=1
  ·have hmk:=(SS.len HKO.out).2.1
   have e1:m=1:=by omega
   have e2:ks.drop 1=[]:=List.eq_nil_of_length_eq_zero (by rw[List.length_drop,hml,e1])
   rw[e1,hq,e2]
   exact⟨_,0,rfl,Nat.le_refl _,by decide,.inl rfl⟩
  ·rw[if_neg hq]at hk1v
   rw[hk1v]
   exact SS.drop HKO.out 1 (by omega))
 clear hk1v
 have HML:=zh hml
 obtain⟨kn,hkn⟩:∃ kn:Nat,min (key.size:Int) 33=(kn:Int):=⟨min key.size 33,by omega⟩
 have hkz:(0:Int)≤(kn:Int):=by omega
 have hkt:(kn:Int)≤(key.size:Int):=by omega
 have hk33:kn≤33:=by omega
 have hmi:(1:Int)≤(m:Int):=by omega
 have hmk:m≤kc:=(SS.len HKO.out).2.1
 clear hml
 go_upto_region 11 with fail
 obtain⟨kt,hke⟩:∃ kt,kt=key.extract 0 kn:=⟨_,rfl⟩
 have hkts:kt.size≤1000:=by rw[hke,ByteArray.size_extract];omega
 have HKT:=zh hke
 clear hke
 refine wp_region_noPanic ?_
 refine wp_region_lexB [.q 1,.q 2,.q 3,.q 5,.q 6,.q 7,.q 8,.q 9,.an 0,.an 10,.an 13,.co 0,.b 4,.co 10,.b 11,.q 12,.co 13,.b 14] (by kernel_rfl) (by kernel_rfl) (fun _ _ _ _ h=>h) ?_
 iterate 2(refine wpFl_qL (v:=?_) rfl (Or.inl ⟨by rfl,?_⟩) ?_;rotate_left;(focus(intro w' hSw;have c0:=(HCO.out w' hSw).1;go_simp;(try with_reducible rfl);done));simp only[Act.put,zzA,zzB,zzC])
 refine wpFl_qL (v:=.slice (some ⟨kb,k1,none⟩) (m - 1) (kc - 1)) rfl (Or.inl ⟨by rfl,?_⟩) ?_
 focus(intro w' hSw;have hk1v:=HK1.out;(by_cases hq:kc=1;(rw[if_pos hq]at hk1v;subst hk1v;(go_simp;try omega));(rw[if_neg hq]at hk1v;subst hk1v;(go_simp;try omega)));done)
 simp only[Act.put,zzA,zzB,zzC]
 iterate 4(refine wpFl_qL (v:=?_) rfl (Or.inl ⟨by rfl,?_⟩) ?_;rotate_left;(focus(intro w' hSw;go_simp;(try with_reducible rfl);done));simp only[Act.put,zzA,zzB,zzC])
 refine wpFl_qL (v:=.string kt) rfl (Or.inl ⟨by rfl,?_⟩) ?_
 focus(intro w' hSw;have et:=HKT.out;(go_simp;try rw[et]);done)
 simp only[Act.put,zzA,zzB,zzC]
 refine wpFl_anL rfl (.cells #[] 9 (0,0)) (fun n=>.slice (some ⟨n,0,none⟩) 0 0) ⟨by rfl,fun w'=>?_⟩ ?_
 focus(go_simp;done)
 refine wpFl_anL rfl (.cells #[.string kt] 9 (0,0)) (fun n=>.slice (some ⟨n,0,none⟩) 1 1) ⟨by rfl,fun w'=>?_⟩ ?_
 focus(go_simp;done)
 refine wpFl_anL rfl (.cells #[.slice none 0 0] 31 (0,0)) (fun n=>.pointer (some ⟨n,0,none⟩)) ⟨by rfl,fun w'=>?_⟩ ?_
 focus(go_simp;done)
 refine wpFl_coL rfl (.cells #[] 9 (0,0)) (fun n=>.slice (some ⟨n,0,none⟩) 0 0) (by rfl) (N':=[(13,.cells #[.slice none 0 0] 31 (0,0),fun n=>.pointer (some ⟨n,0,none⟩)),(10,.cells #[.string kt] 9 (0,0),fun n=>.slice (some ⟨n,0,none⟩) 1 1)]) (by rfl) (fun bp wp hn_wp hs_wp hb_bp hz_bp=>?_)
 simp only[Act.put,zzA,zzB,zzC]
 have HP0:=zh (OwnS.zeroN hz_bp hb_bp)
 have HZP:=zh hz_bp
 clear hz_bp hs_wp
 refine wpFl_bL rfl (fun wq hnq hsq K hK=>?_)
 have HP1:=zh (OwnE.far HP0.out hnq (Nat.le_refl _))
 have HZ1:=zh (kept_block HZP.out hnq)
 have HSQ:=zh (HKD.out.below hsq)
 refine step_append_all rfl _ _ wo.heap.size (.slice (some ⟨bp,0,none⟩) 0 0) [] (ks.drop 1) (.slice (some ⟨kb,k1,none⟩) (m - 1) (kc - 1)) HP1.out HSQ.out (by rw[List.length_drop,HML.out,List.length_nil];omega) hsq.size rfl rfl rfl ?_
 intro v8 wr1 hown8 hgr8
 rw[List.nil_append]at hown8
 have HB8:Hid (Below wo.heap.size wo wr1):=zh (Below.grown hsq hgr8 hsq.size (fun j e=>OwnE.ge HP1.out j e))
 refine hK.out _ _ HB8.out (Keeps.zeroN HZ1.out hgr8 (by
  intro x hx e
  rcases List.mem_cons.1 hx with rfl | hx
  ·cases e
  ·rw[List.mem_singleton.1 hx]at e
   cases e)) ?_
 clear hK K
 obtain⟨a8,c8,hv8⟩:=OwnE.form hown8
 rw[scells_len,List.length_drop,HML.out]at hv8
 subst hv8
 have HO8:=zh hown8
 clear HP0 HP1 HZP HZ1 HSQ hown8 hgr8 hnq hsq hn_wp hb_bp HB8
 simp only[Act.put,zzA,zzB,zzC]
 refine wpFl_coL rfl (.cells #[.string kt] 9 (0,0)) (fun n=>.slice (some ⟨n,0,none⟩) 1 1) (by rfl) (N':=[(13,.cells #[.slice none 0 0] 31 (0,0),fun n=>.pointer (some ⟨n,0,none⟩))]) (by rfl) (fun bq wr2 hn_wr2 hs_wr2 hb_bq hz_bq=>?_)
 simp only[Act.put,zzA,zzB,zzC]
 have HO9:=zh (OwnE.far HO8.out hn_wr2 (Nat.le_refl _))
 have HS9:=zh (SS.one hz_bq)
 clear HO8 hn_wr2 hs_wr2 hz_bq hb_bq
 refine wpFl_bL rfl (fun wr3 hn3 hs3 K hK=>?_)
 have HO10:=zh (OwnE.far HO9.out hn3 (Nat.le_refl _))
 have HS10:=zh (SS.below HS9.out hn3)
 refine step_append_all rfl _ _ wo.heap.size (.slice a8 (m - 1) c8) (ks.drop 1) [kt] (.slice (some ⟨bq,0,none⟩) 1 1) HO10.out HS10.out (by rw[List.length_drop,HML.out,List.length_singleton];omega) hs3.size rfl rfl rfl ?_
 intro v9 wr4 hown9 hgr9
 have HB9:Hid (Below wo.heap.size wo wr4):=zh (Below.grown hs3 hgr9 hs3.size (fun j e=>OwnE.ge HO10.out j e))
 refine hK.out _ _ HB9.out (Keeps.own HO10.out hgr9 (by intro x hx c e;rw[List.mem_singleton.1 hx]at e;cases e)) ?_
 clear hK K
 obtain⟨ss,hss⟩:∃ ss,ss=ks.drop 1++[kt]:=⟨_,rfl⟩
 have hsl:ss.length=m:=by rw[hss,List.length_append,List.length_drop,HML.out,List.length_singleton];omega
 have HSS:Hid (∀ k∈ss,k.size≤1000):=zh (fun k hk=>by
  rw[hss]at hk
  rcases List.mem_append.1 hk with h | h
  ·exact HKS.out k (List.mem_of_mem_drop h)
  ·rw[List.mem_singleton.1 h];exact hkts)
 rw[← hss]at hown9
 obtain⟨a9,c9,hv9⟩:=OwnE.form hown9
 rw[scells_len,hsl]at hv9
 subst hv9
 have HO11:=zh hown9
 have HSL:=zh hsl
 clear HO9 HO10 HS9 HS10 hown9 hgr9 hn3 hs3 HB9 hss hsl
 simp only[Act.put,zzA,zzB,zzC]
 refine wpFl_qL (v:=?_) rfl (Or.inl ⟨by rfl,?_⟩) ?_
 rotate_left
 focus(intro w' hSw;go_simp;(try with_reducible rfl);done)
 simp only[Act.put,zzA,zzB,zzC]
 refine wpFl_coL rfl (.cells #[.slice none 0 0] 31 (0,0)) (fun n=>.pointer (some ⟨n,0,none⟩)) (by rfl) (N':=[]) (by rfl) (fun bh wr5 hn_wr5 hs_wr5 hb_bh hz_bh=>?_)
 simp only[Act.put,zzA,zzB,zzC]
 have HO12:=zh (OwnE.far HO11.out hn_wr5 (Nat.le_refl _))
 clear HO11 hn_wr5 hs_wr5
 refine wpFl_bL rfl (fun wr6 hn6 hs6 K hK=>?_)
 have HO13:=zh (OwnE.far HO12.out hn6 (Nat.le_refl _))
 have HZ13:=zh (kept_block hz_bh hn6)
 have z0:=cell_of_row wr6 _ 0 _ _ _ HZ13.out
 have zf:∀ j,wr6.frozen? ⟨bh,j,none⟩=false:=fun j=>by unfold World.frozen?;rw[HZ13.out];simp
 clear HO12 hz_bh
 go_simp
 have HBv:=zh (hs6.setCell (p:=⟨bh,0,none⟩) hb_bh (.slice a9 m c9))
 have HVv:=zh (heap_setCell_same (i:=0) (.slice a9 m c9) HZ13.out)
 have HOv:Hid (OwnS (wr6.setCell ⟨bh,0,none⟩ (.slice a9 m c9)) wo.heap.size (.slice a9 m c9) ss):=zh (OwnE.grownT HO13.out HZ13.out (fun c e=>by injection e with _ e;exact absurd e (by decide)) (grown_setCell (grown_refl _ _) ⟨bh,0,none⟩ (.inl rfl) _))
 refine hK.out _ _ HBv.out Keeps.nil ?_
 clear hK K z0 zf HO13 HZ13 hn6 hs6 hb_bh
 generalize wr6.setCell ⟨bh,0,none⟩ (.slice a9 m c9)=wv at *
 refine wpFl_nil ?_
 refine NoPanic.normal ?_
 have HSV:=zh (OwnS.ss HOv.out)
 have HEV:=zh (HEO.out.step HBv.out)
 have HKV:=zh (HKO.out.below HBv.out)
 have HPV:=zh (HVP.out.below HBv.out)
 have HLV:=zh (HVO.out.below HBv.out)
 have HBV:=zh (HBWo.out.trans (HBv.out.mono HBWo.out.size))
 have HCV:Hid (∀ W,Below wv.heap.size wv W→((W.cell? ⟨bc,0,none⟩=some (.slice (some ⟨kb,ko,none⟩) m kc)∧W.cell? ⟨bs,0,none⟩=some (.int .i64 num)∧W.cell? ⟨bs,1,none⟩=some (.int .i64 stp))∧W.cell? ⟨bh,0,none⟩=some (.slice a9 m c9))∧_):=zh (fun W hW=>And.intro (And.intro (HCO.out W (q_next HBv.out hW)) (cell_of_row W _ 0 _ _ _ (kept_block HVv.out hW))) (HRO.out W (q_next HBv.out hW)))
 clear HCO HRO HEO HKO HVP HVO HBWo HVv HOv HKD HBv
 have HOA:Hid (OwnV (wv.alloc (.cells #[] 27)) wv.heap.size (.slice (some ⟨wv.heap.size,0,none⟩) 0 0) []):=zh ⟨rfl,.inr ⟨wv.heap.size,0,#[],rfl,Nat.le_refl _,heap_alloc_new wv _,Nat.le_refl _,by decide,rfl,rfl⟩⟩
 have HBA:Hid (Below wv.heap.size wv (wv.alloc (.cells #[] 27))):=zh (br0.alloc (Nat.le_refl _) _)
 have HVA:=zh (HPV.out.below HBA.out)
 have hl1:Hid (([]:List VoteP).length+PL.length≤1000000):=zh (by simp;omega)
 have hl2:Hid ((([]:List VoteP)++PL).length+PL.length≤1000000):=zh (by simp;omega)
 have hl3:Hid ((([]:List VoteP)++PL++PL).length+OD.length≤1000000):=zh (by simp;omega)
 clear hpl
 go_upto_region 13 with(at_builtin;first | (refine wpList_append_votes _ _ wv.heap.size _ ([]) PL _ HOA.out HVA.out hl1.out HBA.out.size rfl rfl rfl rfl ?_;intro va wA hown hgr;have HOB:=zh hown;have HBB:=zh (HBA.out.grown hgr HBA.out.size (fun j e=>OwnE.ge HOA.out j e));have HVB:=zh (HPV.out.below HBB.out);clear hown hgr HOA HBA HVA) | (refine wpList_append_votes _ _ wv.heap.size _ ([]++PL) PL _ HOB.out HVB.out hl2.out HBB.out.size rfl rfl rfl rfl ?_;intro vb wB hown hgr;have HOC:=zh hown;have HBC:=zh (HBB.out.grown hgr HBB.out.size (fun j e=>OwnE.ge HOB.out j e));have HVC:=zh (HLV.out.below HBC.out);clear hown hgr HOB HBB HVB) | (refine wpList_append_votes _ _ wv.heap.size _ ([]++PL++PL) OD _ HOC.out HVC.out hl3.out HBC.out.size rfl rfl rfl rfl ?_;intro vL wD hown hgr;have HOD:=zh hown;have HBD:=zh (HBC.out.grown hgr HBC.out.size (fun j e=>OwnE.ge HOC.out j e));clear hown hgr HOC HBC HVC))
 have HOL:=zh (OwnV.vs HOD.out)
 generalize ([]:List VoteP)++PL++PL++OD=LL at *
 have HED:=zh (HEV.out.step HBD.out)
 have HKD:=zh (HKV.out.below HBD.out)
 have HSD:=zh (HSV.out.below HBD.out)
 have HPD:=zh (HPV.out.below HBD.out)
 have HLD:=zh (HLV.out.below HBD.out)
 have HCD:=zh (fun W (hW:Below wD.heap.size wD W)=>HCV.out W (q_next HBD.out hW))
 have HBE:=zh (HBV.out.trans (HBD.out.mono HBV.out.size))
 clear HEV HKV HSV HPV HLV HCV HBV HBD HOD hl1 hl2 hl3
 have hn1:ks.length≤1000:=by rw[HML.out];exact hm7
 have hn2:ss.length≤1000:=by rw[HSL.out];exact hm7
 have HA1:=zh (fun W (hW:Below wD.heap.size wD W)=>agree_any (HED.out.step hW) (HKD.out.below hW) HKS.out hn1 (HPD.out.below hW) num stp u hus2)
 have HA2:=zh (fun W (hW:Below wD.heap.size wD W)=>agree_any (HED.out.step hW) (HKD.out.below hW) HKS.out hn1 (HLD.out.below hW) num stp u hus2)
 have HA3:=zh (fun W (hW:Below wD.heap.size wD W)=>agree_any (HED.out.step hW) (HSD.out.below hW) HSS.out hn2 (HPD.out.below hW) num stp u hus2)
 have HA4:=zh (fun W (hW:Below wD.heap.size wD W)=>agree_any (HED.out.step hW) (HKD.out.below hW) HKS.out hn1 (HLD.out.below hW) rn rs rv hrv)
 have HA5:=zh (fun W (hW:Below wD.heap.size wD W)=>agree_any (HED.out.step hW) (HKD.out.below hW) HKS.out hn1 (HOL.out.below hW) num stp u hus2)
 clear hn1 hn2 hus2
 have HR:Hid (Below wD.heap.size wD wD):=zh br0
 obtain⟨⟨⟨c0,s0,s1⟩,y0⟩,r0,r1,r2,r3,r4⟩:=HCD.out wD HR.out
 go_cut [150] (fun t wx=>t=.bool false∧Hid (Below wD.heap.size wD wx))
 case first =>
  go_wp2_with (go_at_call 18;(first | ((with_reducible refine(HA1.out _ HR.out).mono ?_);clear HA1) | ((with_reducible refine(HA2.out _ HR.out).mono ?_);clear HA2) | ((with_reducible refine(HA3.out _ HR.out).mono ?_);clear HA3) | ((with_reducible refine(HA4.out _ HR.out).mono ?_);clear HA4) | ((with_reducible refine(HA5.out _ HR.out).mono ?_);clear HA5));clear c0 s0 s1 y0 r0 r1 r2 r3 r4;rintro e wE ⟨rfl,hbE⟩;replace HR:=zh (q_next HR.out hbE);clear hbE;obtain⟨⟨⟨c0,s0,s1⟩,y0⟩,r0,r1,r2,r3,r4⟩:=HCD.out wE HR.out)
  go_meet
  case rel=>exact⟨rfl,HR⟩
 case rest =>
 obtain⟨ht150,HSZ⟩:=hcut
 subst ht150
 clear c0 s0 s1 y0 r0 r1 r2 r3 r4 HA1 HA2 HA3 HA4 HA5 HR
 rename_i hKK
 refine hKK _ _ ?_
 iterate 4 go_step
 have HBZ:=zh (HBE.out.trans (HSZ.out.mono HBE.out.size))
 have HEZ:=zh (HED.out.step HSZ.out)
 have HKZ:=zh (HKD.out.below HSZ.out)
 have HSY:=zh (HSD.out.below HSZ.out)
 have HPZ:=zh (HPD.out.below HSZ.out)
 have HLZ:=zh (HLD.out.below HSZ.out)
 have HCZ:=zh (fun W hW=>(HCD.out W (q_next HSZ.out hW)).1.1)
 have HCY:=zh (fun W hW=>(HCD.out W (q_next HSZ.out hW)).1.2)
 refine wp_of_eqM (mref_votes HBZ HEZ bc bs bh m kc k m c9 (some ⟨kb,ko,none⟩) a9 ks ss vp vo PL OD hjo num stp value which u text key iw HML.out.symm HKS hm7 HSS HKZ HSY HPZ HLZ HCZ HCY).choose_spec.2 ?_
 exact tailQN3 (mref_votes HBZ HEZ bc bs bh m kc k m c9 (some ⟨kb,ko,none⟩) a9 ks ss vp vo PL OD hjo num stp value which u text key iw HML.out.symm HKS hm7 HSS HKZ HSY HPZ HLZ HCZ HCY).choose_spec.1
theorem vfive_belowN {w W:World}{b B:Nat}(h:Below B w W)(hb:B≤b)(k:Nat)(v0 v1 v2 v3 v4:Value) :
  Below B w (((((W.setCell ⟨b,k,none⟩ v0).setCell ⟨b,k+1,none⟩ v1).setCell ⟨b,k+2,none⟩ v2).setCell ⟨b,k+3,none⟩ v3).setCell ⟨b,k+4,none⟩ v4) :=
 ((((h.setCell (p:=⟨b,k,none⟩) hb _).setCell (p:=⟨b,k+1,none⟩) hb _).setCell (p:=⟨b,k+2,none⟩) hb _).setCell (p:=⟨b,k+3,none⟩) hb _).setCell (p:=⟨b,k+4,none⟩) hb _
set_option maxHeartbeats 16000000 in
set_option maxRecDepth 100000 in
theorem mref_walk {w:World}{x:Value}{xs:List R4}(n at1 value which b0 b1 rc rn rs:Int)(rv rl text key:ByteArray)(hx:RS w x xs)(hi:∀ q∈xs,Int4 q)(i0:I64 n)(i1:I64 at1)(i2:I64 value)(i3:I64 which)(i4:I64 b0)(i5:I64 b1)(hrv:rv.size≤maxLen)(_hte:text.size≤maxLen)(_hke:key.size≤maxLen)(he:QEnv w) :
  Calls Tryz.prog 3 #[.int .i64 n,x,.int .i64 at1,.int .i64 value,.int .i64 which,.agg #[.int .i64 b0,.int .i64 b1],.agg #[.int .i64 rc,.int .i64 rn,.int .i64 rs,.string rv,.string rl],.string text,.string key] w fun e w'=>e=.returned (.bool true)∧Below w.heap.size w w':=by
 obtain⟨W0,hW0⟩:∃ W0,W0=w.alloc (.cells #[.int .i64 b0,.int .i64 b1] 23):=⟨_,rfl⟩
 have HB0:Hid (Below w.heap.size w W0):=zh (by rw[hW0];exact br0.alloc (Nat.le_refl _) _)
 have HX0:Hid (W0.heap[w.heap.size]?=some (.cells #[.int .i64 b0,.int .i64 b1] 23 (0,0))):=zh (by rw[hW0];exact heap_alloc_new w _)
 obtain⟨W1,hW1⟩:∃ W1,W1=W0.alloc (.cells #[.int .i64 rc,.int .i64 rn,.int .i64 rs,.string rv,.string rl] 27):=⟨_,rfl⟩
 have HB01:Hid (Below W0.heap.size W0 W1):=zh (by rw[hW1];exact br0.alloc (Nat.le_refl _) _)
 have hs0:W0.heap.size=w.heap.size+1:=by rw[hW0];simp
 have HX1:Hid (W1.heap[w.heap.size+1]?=some (.cells #[.int .i64 rc,.int .i64 rn,.int .i64 rs,.string rv,.string rl] 27 (0,0))):=zh (by rw[hW1,← hs0];exact heap_alloc_new W0 _)
 have HB1:Hid (Below w.heap.size w W1):=zh (q_next HB0.out HB01.out)
 have HY1:Hid (W1.heap[w.heap.size]?=some (.cells #[.int .i64 b0,.int .i64 b1] 23 (0,0))):=zh ((HB01.out.block _ (ltA HX0.out)).trans HX0.out)
 have HE1:=zh (he.step HB1.out)
 have HSA:=zh (sane_any HE1.out)
 have HMA:=zh (fun W=>made19_any n i0 W)
 have HAT:=zh (fun W=>at_any at1 i1 W)
 have HVL:=zh (fun W=>valN_any value i2 W)
 have HX:=zh (hx.below HB1.out)
 have HI:=zh hi
 have HW0:=zh hW0
 have HW1:=zh hW1
 have hm:=madeN_or n
 have hnr:=atNum_range at1
 have hsr:=atStp_range at1
 have hus:=valN_size value
 generalize madeN n=m at *
 generalize atNum at1=num at *
 generalize atStp at1=stp at *
 generalize valN value=u at *
 clear hx hi he hW0 hW1 HX0 HB01 HB0 hs0
 go_enter Tryz.func3,Tryz.ntmps3
 go_upto_region 1 with fail
 rw[← HW0.out,← HW1.out]
 obtain⟨bb,hbb⟩:∃ bb,bb=w.heap.size:=⟨_,rfl⟩
 rw[← hbb]at HX1 HY1 ⊢
 clear hbb HW1 HW0
 obtain⟨rb,hrb⟩:∃ rb,rb=bb+1:=⟨_,rfl⟩
 rw[← hrb]at HX1 ⊢
 clear hrb
 go_upto_region 4 with(go_at_call 11;refine HSA.out.mono ?_;rintro e w2 ⟨rfl,hb2⟩)
 go_upto_region 5 with(go_at_call 12;refine(HMA.out _).mono ?_;rintro e w3 ⟨kv,rfl,hks,hb3⟩;obtain⟨ka,kc,hkv,-,-,-⟩:=hks.opened;rw[madeQ_len]at hkv;subst hkv)
 have HB3:=zh (q_next hb2 hb3)
 have HK3:=zh hks
 clear hb2 hb3 hks
 obtain⟨w4,hw4⟩:∃ W,W=w3.alloc (.cells #[.slice ka m kc] 31):=⟨_,rfl⟩
 have HV_w4:Hid (w4.heap[w3.heap.size]?=some (.cells #[.slice ka m kc] 31 (0,0))):=zh (by rw[hw4];exact heap_alloc_new w3 _)
 have HS_w4:Hid (Below w3.heap.size w3 w4):=zh (by rw[hw4];exact br0.alloc (Nat.le_refl _) _)
 have HB_w4:=zh (q_next HB3.out HS_w4.out)
 rw[← hw4]
 obtain⟨bc,hbc⟩:∃ b,b=w3.heap.size:=⟨_,rfl⟩
 rw[← hbc]at HV_w4 ⊢
 clear hw4 hbc
 go_upto_region 6 with(go_at_call 13;refine(HAT.out _).mono ?_;rintro e w5 ⟨rfl,hb5⟩)
 have HB5:=zh (q_next HB_w4.out hb5)
 have HV5:=zh ((hb5.block _ (ltA HV_w4.out)).trans HV_w4.out)
 have HK5:=zh (HK3.out.below (q_next HS_w4.out hb5))
 clear hb5 HV_w4 HS_w4 HB_w4 HK3 HB3
 obtain⟨w6,hw6⟩:∃ W,W=w5.alloc (.cells #[.int .i64 num,.int .i64 stp] 25):=⟨_,rfl⟩
 have HV_w6:Hid (w6.heap[w5.heap.size]?=some (.cells #[.int .i64 num,.int .i64 stp] 25 (0,0))):=zh (by rw[hw6];exact heap_alloc_new w5 _)
 have HS_w6:Hid (Below w5.heap.size w5 w6):=zh (by rw[hw6];exact br0.alloc (Nat.le_refl _) _)
 have HB_w6:=zh (q_next HB5.out HS_w6.out)
 rw[← hw6]
 obtain⟨bs,hbs⟩:∃ b,b=w5.heap.size:=⟨_,rfl⟩
 rw[← hbs]at HV_w6 ⊢
 clear hw6 hbs
 go_upto_region 7 with(go_at_call 14;refine(HVL.out _).mono ?_;rintro e w7 ⟨rfl,hb7⟩)
 have HB7:=zh (q_next HB_w6.out hb7)
 have HK7:=zh (HK5.out.below (q_next HS_w6.out hb7))
 have HVC:=zh (((q_next HS_w6.out hb7).block _ (ltA HV5.out)).trans HV5.out)
 have HVS:=zh ((hb7.block _ (ltA HV_w6.out)).trans HV_w6.out)
 clear hb7 HV_w6 HS_w6 HB_w6 HK5 HB5 HV5 HSA HMA HAT HVL
 have HCB:Hid (∀ W,Below w7.heap.size w7 W→W.cell? ⟨bc,0,none⟩=some (.slice ka m kc)∧W.cell? ⟨bs,0,none⟩=some (.int .i64 num)∧W.cell? ⟨bs,1,none⟩=some (.int .i64 stp)):=zh (fun W hW=>by
  have h:=two_at ((hW.block bs (ltA HVS.out)).trans HVS.out)
  exact⟨cell_of_row W _ 0 _ _ _ ((hW.block bc (ltA HVC.out)).trans HVC.out),h.1,h.2⟩)
 have HPO:=zh (pool_any (HX.out.below HB7.out) HI.out)
 go_upto_region 8 with(go_at_call 15;refine HPO.out.mono ?_;rintro e w8 ⟨vp,rfl,hvp,hb8⟩)
 have HS8:=zh hb8
 have HV8:=zh hvp
 have HE8:=zh (HE1.out.step (q_next HB7.out hb8))
 have HK8:=zh (HK7.out.below hb8)
 have hpl:=poolN_len xs
 have hvk:=madeQ_valid hm
 generalize poolN xs=PL at *
 clear hb8 hvp HPO HX HI
 have HXR:=zh (fun W (hW:Below w8.heap.size w8 W)=>And.intro (two_at (((q_next HB7.out (q_next HS8.out hW)).block _ (ltA HY1.out)).trans HY1.out)) (vcellsAt (((q_next HB7.out (q_next HS8.out hW)).block _ (ltA HX1.out)).trans HX1.out)))
 obtain⟨-,r0,r1,r2,r3,r4⟩:=HXR.out w8 br0
 have HOA:Hid (OwnV (w8.alloc (.cells #[.int .i64 rc,.int .i64 rn,.int .i64 rs,.string rv,.string rl] 27)) w8.heap.size (.slice (some ⟨w8.heap.size,0,none⟩) 1 1) [⟨rc,rn,rs,rv,rl⟩]):=zh ⟨rfl,.inr ⟨w8.heap.size,1,#[.int .i64 rc,.int .i64 rn,.int .i64 rs,.string rv,.string rl],rfl,Nat.le_refl _,heap_alloc_new w8 _,Nat.le_refl _,by decide,rfl,rfl⟩⟩
 have HBA:Hid (Below w8.heap.size w8 (w8.alloc (.cells #[.int .i64 rc,.int .i64 rn,.int .i64 rs,.string rv,.string rl] 27))):=zh (br0.alloc (Nat.le_refl _) _)
 have HVA:=zh (HV8.out.below HBA.out)
 have hl6:Hid (([⟨rc,rn,rs,rv,rl⟩]:List VoteP).length+PL.length≤1000000):=zh (by simp;omega)
 go_upto_region 9 with(at_builtin;refine wpList_append_votes _ _ w8.heap.size _ [⟨rc,rn,rs,rv,rl⟩] PL _ HOA.out HVA.out hl6.out HBA.out.size rfl rfl rfl rfl ?_;intro vo2 wd hown hgr;have HOD:=zh hown;have HBD:=zh (HBA.out.grown hgr HBA.out.size (fun j e=>OwnE.ge HOA.out j e));clear hown hgr)
 clear r0 r1 r2 r3 r4 HOA HBA HVA hl6
 obtain⟨O,hO⟩:∃ O:List VoteP,O=[⟨rc,rn,rs,rv,rl⟩]++PL:=⟨_,rfl⟩
 rw[← hO]at HOD
 obtain⟨L,hL⟩:∃ L,L=O.length:=⟨_,rfl⟩
 have hL1:1≤L:=by rw[hL,hO];simp
 have hL31:L≤31:=by rw[hL,hO];simp;omega
 obtain⟨g,gc,rfl,hgz⟩:∃ g gc,vo2=.slice (some ⟨g,0,none⟩) L gc∧w8.heap.size≤g:=by
  rcases HOD.out.2 with⟨_,h0⟩ | ⟨g,cap,cur,hv,hb,_⟩
  ·rw[List.length_map,← hL]at h0
   omega
  ·rw[List.length_map,← hL]at hv
   exact⟨g,cap,hv,hb⟩
 have HL:=zh hL
 have HOE:=zh hO
 clear hL hO
 have hpk:=pickI_range which (show(0:Int) < (L:Int) by omega)
 obtain⟨j,hj⟩:∃ j:Nat,pickI which L=(j:Int):=⟨(pickI which L).toNat,by omega⟩
 have HPK:=zh (fun W=>lpickQ_any which L W i3 (by omega) (by omega))
 rw[hj]at HPK hpk
 have hjL:j < L:=by omega
 obtain⟨pv,epv⟩:∃ pv,O[j]?=some pv:=⟨_,List.getElem?_eq_getElem (by rw[← HL.out];exact hjL)⟩
 have HBT:=zh (fun W=>rbent_any pv b0 b1 i4 i5 W)
 obtain⟨z,hz⟩:∃ z,z=bentV pv b0 b1:=⟨_,rfl⟩
 rw[← hz]at HBT
 have HSE:=zh (fun(W:World) (h:OwnV W w8.heap.size (.slice (some ⟨g,0,none⟩) L gc) O)=>OwnV.set h j (by rw[← HL.out];exact hjL) z)
 have HCL:=zh (fun(W:World) (h:OwnV W w8.heap.size (.slice (some ⟨g,0,none⟩) L gc) O)=>And.intro (OwnV.cells h).1 ((OwnV.cells h).2.2.2.2 j pv epv))
 have HPA:=zh (fun W (hW:Below wd.heap.size wd W)=>And.intro ((OwnV.cells (OwnE.far HOD.out hW (Nat.le_refl _))).2.2.2.2 j pv epv) (HXR.out W (q_next HBD.out hW)).1)
 obtain⟨vc,vn,vs,vv,vl⟩:=pv
 obtain⟨zc,zn,zs,zv,zl⟩:=z
 simp only[vagg]at HBT HSE HCL HPA
 have tj0:(0:Int)≤(j:Int):=by omega
 have tjL:(j:Int) < (L:Int):=by omega
 clear hz epv hj hpk
 go_upto_region 10 with(go_at_call 16;(with_reducible refine(HPK.out _).mono ?_);rintro e w' ⟨rfl,hw'⟩;replace hw':=hw'.symm;subst hw')
 refine wp_region_noPanic ?_
 refine wp_region_lexB [.q 0,.q 1,.q 2,.q 3,.q 4,.q 5,.q 6,.q 7,.q 8,.q 9,.b 10,.q 11,.l 12] (by kernel_rfl) (by kernel_rfl) (fun _ _ _ _ h=>h) ?_
 iterate 10(refine wpFl_qL (v:=?_) rfl (Or.inl ⟨by rfl,?_⟩) ?_;rotate_left;(focus(intro w' hSw;obtain⟨⟨v0,v1,v2,v3,v4⟩,x0,x1⟩:=HPA.out w' hSw;go_simp;(try with_reducible rfl);done));simp only[Act.put,zzA,zzB,zzC])
 refine wpFl_bL rfl (fun waa hnaa hsaa K hK=>?_)
 go_simp
 go_at_call 17
 (with_reducible refine(HBT.out _).mono ?_)
 rintro e wba ⟨rfl,hba⟩
 have HBF:=zh (q_next hsaa hba)
 refine hK.out _ _ (q_next hsaa hba) (Keeps.below hba) ?_
 clear hK K hnaa hsaa
 refine wpFl_qL (v:=?_) rfl (Or.inl ⟨by rfl,?_⟩) ?_
 rotate_left
 focus(intro w' hSw;go_simp;(try with_reducible rfl);done)
 simp only[Act.put,zzA,zzB,zzC]
 refine wpFl_lL rfl (fun wn hn_wn hs_wn K hK=>?_)
 have HON:=zh (OwnE.far HOD.out hs_wn (Nat.le_refl _))
 obtain⟨zf,d0,d1,d2,d3,d4⟩:=HCL.out wn HON.out
 have HOO:=zh (HSE.out wn HON.out)
 have HBO:=zh (vfive_belowN (q_next HBD.out hs_wn) hgz (j*5) (.int .i64 zc) (.int .i64 zn) (.int .i64 zs) (.string zv) (.string zl))
 go_simp
 refine hK.out _ _ (NoPanic.normal ?_)
 clear hK K zf d0 d1 d2 d3 d4 hn_wn hs_wn HON HBF hba HSE HCL HBT HOD HBD HPA
 generalize (((((wn.setCell ⟨g,j*5,none⟩ (.int .i64 zc)).setCell ⟨g,j*5+1,none⟩ (.int .i64 zn)).setCell ⟨g,j*5+2,none⟩ (.int .i64 zs)).setCell ⟨g,j*5+3,none⟩ (.string zv)).setCell ⟨g,j*5+4,none⟩ (.string zl))=wo at *
 have HVO:=zh (OwnV.vs HOO.out)
 obtain⟨OD,hOD⟩:∃ OD:List VoteP,OD=O.set j ⟨zc,zn,zs,zv,zl⟩:=⟨_,rfl⟩
 rw[← hOD]at HVO
 have hLO:L=OD.length:=by rw[hOD,List.length_set];exact HL.out
 have HLO:=zh hLO
 clear HOO hOD hLO HL HOE HPK
 have HEO:=zh (HE8.out.step HBO.out)
 have HKO:=zh (HK8.out.below HBO.out)
 have HVP:=zh (HV8.out.below HBO.out)
 have HCO:=zh (fun W (hW:Below wo.heap.size wo W)=>HCB.out W (q_next HS8.out (q_next HBO.out hW)))
 have HRO:=zh (fun W (hW:Below wo.heap.size wo W)=>(HXR.out W (q_next HBO.out hW)).2)
 have HBWo:=zh (HB1.out.trans ((q_next HB7.out (q_next HS8.out HBO.out)).mono HB1.out.size))
 clear HCB HXR HE8 HK8 HV8 HB1 HB7 HS8 HBO HK7 HX1 HY1 HE1 HVC HVS
 have hm4:1≤m:=by rcases hm with h | h | h <;> omega
 have hm7:m≤1000:=by rcases hm with h | h | h <;> omega
 have HKS:Hid (∀ k∈madeQ m,k.size≤1000):=zh (fun k hk=>by
  obtain⟨i,_,rfl⟩:=List.mem_map.1 hk
  rw[keyQ_size]
  omega)
 have hjo:j < OD.length:=by rw[← HLO.out];exact hjL
 have hol:OD.length≤31:=by rw[← HLO.out];exact hL31
 have hus2:u.size≤maxLen:=by rw[hus];decide
 refine wp_enterQ2 (by assumption) ?_
 refine wp_of_eqM (mref_short HBWo HEO bc bs rb m kc j ka (madeQ m) vp (.slice (some ⟨g,0,none⟩) L gc) PL OD hjo num stp value which rc rn rs u text key rv rl i3 (madeQ_len m) hm4 hm7 hpl hol hus2 hrv HKS HKO HVP HVO HCO HRO).choose_spec.2 ?_
 exact tailQN5 (mref_short HBWo HEO bc bs rb m kc j ka (madeQ m) vp (.slice (some ⟨g,0,none⟩) L gc) PL OD hjo num stp value which rc rn rs u text key rv rl i3 (madeQ_len m) hm4 hm7 hpl hol hus2 hrv HKS HKO HVP HVO HCO HRO).choose_spec.1
end Go.Proofs.YtggdcnjaofflbaaGreatDoor
