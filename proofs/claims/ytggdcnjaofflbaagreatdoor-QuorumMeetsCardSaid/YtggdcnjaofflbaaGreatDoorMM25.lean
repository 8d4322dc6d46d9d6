/- Walk of the law: QuorumMeets, from the first part on. The conditions: what is known. -/
import Derived.Test.YtggdcnjaofflbaaGreatDoorMM23
import Derived.Test.YtggdcnjaofflbaaGreatDoorMM24
namespace Go.Proofs.YtggdcnjaofflbaaGreatDoor
open Go.RowKit Go.BigFrame
section
variable {ops:Array Oper} {o:Oper} {a:Act} {w:World} {Q:Exit→Act→World→Prop} {K:Act→World→Prop} {E:Prop}
theorem step_append_anyT (t e:TypeId)(size bytes:Nat)(z:Value)(ht:Tryz.prog.underlying t=some (.slice e))(hinfo:(Tryz.prog.info? e).map (fun i=>(i.zero,i.size,i.bytes))=some (some z,size,bytes))(hzs:z.cells.size=size)(hby:bytes≤1000)
  (hgd:o.guard=none) (s x:Operand) (ho:o.op=.call { callee:=.builtin .append,args:=#[s,x],argTypes:=#[t,t] })
  {sa sb:Option Addr} {n m c:Nat} {css dss:List (List Value)} (hs:a.eval s=.slice sa n n) (hx:a.eval x=.slice sb m c) (h1:SliceAt w (.slice sa n n) size css) (h2:SliceAt w (.slice sb m c) size dss) (hty:RowTy w e (.slice sa n n))
  (l1:∀ c∈css,c.length=size) (l2:∀ c∈dss,c.length=size) (o2:∀ c∈dss,∀ u∈c,u.oneCell'=true) (h63:n+m≤100000)
  (h:∀ sv c' w',SliceAt w' (.slice sv (n+m) c') size (css++dss)→RowTy w' e (.slice sv (n+m) c')→Below w.heap.size w w'→K (a.put o.dst (.slice sv (n+m) c')) w') :
  if Region.wanted o (yielded ops a.tmps)=true then Oper.wp Tryz.prog o a w K Q else E:=by
 have hmm:m=dss.length:=by obtain⟨_,_,e,_⟩:=h2;injection e
 rcases Nat.eq_zero_or_pos m with h0 | h0
 ·have hd:dss=[]:=List.eq_nil_of_length_eq_zero (hmm.symm.trans h0)
  subst hd
  subst h0
  have hw:Region.wanted o (yielded ops a.tmps)=true:=by simp[Region.wanted,hgd]
  rw[if_pos hw]
  obtain⟨i,i1,i2,i3,i4⟩:=info_parts hinfo
  have hsrc:Src Tryz.prog i.size t (.slice sb 0 c) 0 [] w:=by
   cases sb with
   | none=>exact Src.ofNil w (e':=e) ht c
   | some ad=>exact Src.ofSlice w (e':=e) ht ad 0 c [] (by simp) (by simp) (by simp)
  have hr:=run_append_nothing w t t o.type e i ht i1 sa n n (Nat.le_refl _) _ hsrc
  have hop:=exec_append s x t ho hs hx hr
  unfold Oper.wp
  rw[hop]
  refine h sa n w ?_ hty br0
  rw[List.append_nil]
  exact h1
 ·refine step_append_fit t e size bytes z ht hinfo hzs hby hgd s x ho hs hx h1 h2 l1 l2 o2 h0 h63 fun cap w' r1 r2=>?_
  exact h _ cap w' (OwnE.slice r1 (fun c hc=>by rcases List.mem_append.1 hc with hc | hc;exact l1 c hc;exact l2 c hc)) (rowTy_own r1) r2
end
theorem itcells_len3 (l:List (ItemP × Value)):∀ c∈itcells l,c.length=3:=fun c hc=>by
 obtain⟨y,_,rfl⟩:=List.mem_map.1 hc
 rfl
theorem itcells_one3 {l:List (ItemP × Value)}(h:∀ y∈l,y.2.oneCell'=true):∀ c∈itcells l,∀ u∈c,u.oneCell'=true:=fun c hc u hu=>by
 obtain⟨y,hy,rfl⟩:=List.mem_map.1 hc
 simp only[List.mem_cons,List.not_mem_nil,or_false]at hu
 rcases hu with rfl | rfl | rfl
 ·rfl
 ·rfl
 ·exact h y hy
theorem IT.bent {W:World}{sv:Option Addr}{n c:Nat}{x:ItemP}{pv:Value}{ys:List (ItemP × Value)}{xs:List ItemP}(hs:SliceAt W (.slice sv n c) 3 (itcells [(x,pv)]++itcells ys))(ht:RowTy W 98 (.slice sv n c))
  (hx:SS W pv x.prf) (htx:RowTy W 9 pv) (hy:∀ y∈ys,SS W y.2 y.1.prf∧RowTy W 9 y.2) (hm:ys.map (·.1)=xs):IT W (.slice sv n c) (x::xs):=by
 refine⟨(x,pv)::ys,by rw[List.map_cons,hm],⟨?_,?_⟩,ht,?_⟩
 ·have e:itcells ((x,pv)::ys)=itcells [(x,pv)]++itcells ys:=rfl
  rw[e]
  exact hs
 ·intro y h
  rcases List.mem_cons.1 h with rfl | h
  ·exact hx
  ·exact(hy y h).1
 ·intro y h
  rcases List.mem_cons.1 h with rfl | h
  ·exact htx
  ·exact(hy y h).2
theorem castL_ok {m i:Nat}(hm:m=1∨m=4∨m=7)(hi:i < m){num stp:Int}(h1:0≤num∧num≤99999999)(h2:0≤stp∧stp≤1000){val:ByteArray}(hv:val.size=32) :
  ∃ n s v l,castL i num stp val=⟨(i:Int),n,s,v,l⟩∧formedV ⟨(i:Int),n,s,v,l⟩=true:=by
 have e:=castL_mk hi (by omega) h1 h2 hv
 have hg:=genV_mk (madeQ_valid hm) h1 h2 hv (show i < (madeQ m).length by rw[madeQ_len];exact hi)
 unfold genV at hg
 rw[Bool.and_eq_true,Bool.and_eq_true]at hg
 exact⟨_,_,_,_,e,hg.1.1⟩
def rtQM2 (c:Code):Code:=rtQ (rtQ (rtQ (rtQ (rtQ (rtQ (rtQ (rtQ (rtQ (rtQ (rtQ (rtQ (rtQ (rtQ (c))))))))))))))
theorem tailQM2 {c L:Code}(h:∃ a0 a1 a2 a3 a4 a5 a6 a7 a8 a9 a10 a11 a12 a13:Code,Tryz.f10.body=some (a0.seq (a1.seq (a2.seq (a3.seq (a4.seq (a5.seq (a6.seq (a7.seq (a8.seq (a9.seq (a10.seq (a11.seq (a12.seq (a13.seq (c))))))))))))))))(hL:Tryz.f10.body.map rtQM2=some L:=by rfl):c=L:=by
 obtain⟨a0,a1,a2,a3,a4,a5,a6,a7,a8,a9,a10,a11,a12,a13,e⟩:=h
 rw[e]at hL
 exact Option.some.inj hL
set_option maxHeartbeats 16000000 in
set_option maxRecDepth 100000 in
theorem meets_bent {w wb:World}(HBW:Hid (Below w.heap.size w wb))(HEB:Hid (QEnv wb))(bc m kc who kb ko pc:Nat)(pa:Option Addr)(vw:Value)(WL:List VoteP)(at1 value siz:Int)(root sl:ByteArray)(its:List ItemP)(iv:Value)(z2:PartP × Value)
  (hm:m=1∨m=4∨m=7) (hwm:who < m) (hsz:siz≤60) (hrt:root.size≤1000) (hil:its.length≤100) (hip:Hid (∀ y∈its,y.prf.length≤1000∧y.ent.size≤1000)) (ix1:I64 at1) (ix2:I64 value)
  (HK:Hid (SS wb (.slice (some ⟨kb,ko,none⟩) m kc) (madeQ m))) (HCB:Hid (∀ W,Below wb.heap.size wb W→W.cell? ⟨bc,0,none⟩=some (.slice (some ⟨kb,ko,none⟩) m kc)∧W.cell? ⟨kb,ko+who,none⟩=some (.string (keyQ who))))
  (HPS:Hid (PS wb (.slice pa 2 pc) [(⟨⟨(who:Int),siz,root,sl⟩,its⟩,iv),z2])) (HWS:Hid (VS wb vw WL))
  (HGG:Hid (∀(x:ItemP) (xs:List ItemP),its=x::xs→∀(v:VoteP) (s:ByteArray),v∈meetV (madeQ m) [⟨⟨(who:Int),siz,root,sl⟩,⟨x.idx,s,x.prf⟩::xs⟩]→v ∉ WL→checkB (keyQ who) ⟨⟨(who:Int),siz,root,sl⟩,⟨x.idx,s,x.prf⟩::xs⟩=true∧verifyB root siz x.idx s x.prf=true∧verifyB root siz x.idx x.ent x.prf=true)) {u0 u1 u2 u3 u4 u7 u8 u9 u10 u11 u12 u13 u14 u17 u19 u21 u22 u23 u24 u25 u26 u27 u28 u29 u30 u31 u32 u33 u34 u35 u36 u37 u38 u39 u40 u41 u42 u43 u44 u45 u46 u47 u48 u49 u50 u51 u52 u53 u54 u55 u56 u57 u58 u59 u60 u61 u62 u63 u64 u65 u66 u67 u68 u69 u70 u71 u72 u73 u74 u75 u76 u77 u78 u79 u80 u81 u82 u83 u84 u85 u86 u87 u88 u89 u90 u91 u92 u93 u94 u95 u96 u97 u98 u99 u100 u101 u102 u103 u104 u105 u106 u107 u108 u109 u110 u111 u112 u113 u114 u115 u116 u117 u118 u119 u120 u121 u122 u123 u124 u125 u126 u127 u128 u129 u130 u131 u132 u133 u134 u135 u136 u137 u138 u139 u140 u141 u142 u143 u144 u145 u146 u147 u148 u149 u150 u151 u152 u153 u154 u155 u156 u157 u158 u159 u160 u161 u162 u163 u164 u165 u166 u167 u168 u169 u170 u171 u172 u173 u174 u175 u176 u177 u178 u179 u180 u181 u182 u183 u184 u185 u186 u187 u188 u189 u190 u191 u192 u193 u194 u195 u196 u197 u198 u199 u200 u201 u202 u203 u204 u205 u206 u207 u208 u209 u210 u211 u212 u213 u214 u215 u216 u217 u218 u219 u220 u221 u222 u223 u224 u225 u226 u227 u228 u229 u230 u231 u232 u233 u234 u235 u236 u237 u238 u239 u240 u241 u242 u243 u244 u245 u246 u247 u248 u249 u250 u251 u252 u253 u254 u255 u256 u257 u258 u259 u260 u261 u262 u263 u264 u265 u266 u267 u268 u269 u270 u271 u272 u273 u274 u275 u276 u277 u278 u279 u280 u281 u282 u283 u284 u285 u286 u287 u288 u289 u290 u291 u292 u293 u294 u295 u296 u297 u298 u299 u300 u301 u302 u303 u304 u305 u306 u307 u308 u309 u310 u311 u312 u313 u314:Value} :
  ∃ c:Code,(∃ a0 a1 a2 a3 a4 a5 a6 a7 a8 a9 a10 a11 a12 a13:Code,Tryz.f10.body=some (a0.seq (a1.seq (a2.seq (a3.seq (a4.seq (a5.seq (a6.seq (a7.seq (a8.seq (a9.seq (a10.seq (a11.seq (a12.seq (a13.seq (c))))))))))))))))∧c.wp Tryz.prog (bodyPost Tryz.prog Tryz.f10 fun e w'=>e=.returned (.bool true)∧Below w.heap.size w w') { tmps:=#[u0,u1,u2,u3,u4,.int .i64 at1,.int .i64 value,u7,u8,u9,u10,u11,u12,u13,u14,.bool true,.pointer (some ⟨bc,0,none⟩),u17,.slice pa 2 pc,u19,vw,u21,u22,u23,u24,u25,u26,u27,u28,u29,u30,u31,u32,u33,u34,u35,u36,u37,u38,u39,u40,u41,u42,u43,u44,u45,u46,u47,u48,u49,u50,u51,u52,u53,u54,u55,u56,u57,u58,u59,u60,u61,u62,u63,u64,u65,u66,u67,u68,u69,u70,u71,u72,u73,u74,u75,u76,u77,u78,u79,u80,u81,u82,u83,u84,u85,u86,u87,u88,u89,u90,u91,u92,u93,u94,u95,u96,u97,u98,u99,u100,u101,u102,u103,u104,u105,u106,u107,u108,u109,u110,u111,u112,u113,u114,u115,u116,u117,u118,u119,u120,u121,u122,u123,u124,u125,u126,u127,u128,u129,u130,u131,u132,u133,u134,u135,u136,u137,u138,u139,u140,u141,u142,u143,u144,u145,u146,u147,u148,u149,u150,u151,u152,u153,u154,u155,u156,u157,u158,u159,u160,u161,u162,u163,u164,u165,u166,u167,u168,u169,u170,u171,u172,u173,u174,u175,u176,u177,u178,u179,u180,u181,u182,u183,u184,u185,u186,u187,u188,u189,u190,u191,u192,u193,u194,u195,u196,u197,u198,u199,u200,u201,u202,u203,u204,u205,u206,u207,u208,u209,u210,u211,u212,u213,u214,u215,u216,u217,u218,u219,u220,u221,u222,u223,u224,u225,u226,u227,u228,u229,u230,u231,u232,u233,u234,u235,u236,u237,u238,u239,u240,u241,u242,u243,u244,u245,u246,u247,u248,u249,u250,u251,u252,u253,u254,u255,u256,u257,u258,u259,u260,u261,u262,u263,u264,u265,u266,u267,u268,u269,u270,u271,u272,u273,u274,u275,u276,u277,u278,u279,u280,u281,u282,u283,u284,u285,u286,u287,u288,u289,u290,u291,u292,u293,u294,u295,u296,u297,u298,u299,u300,u301,u302,u303,u304,u305,u306,u307,u308,u309,u310,u311,u312,u313,u314],defers:=[] } wb:=by
 refine⟨_,⟨_,_,_,_,_,_,_,_,_,_,_,_,_,_,rfl⟩,?_⟩
 obtain⟨wa,wcap,rfl,-,hwm3,hw3⟩:=HWS.out.opened
 have HW3:=zh hw3
 obtain⟨NW,hNW⟩:∃ N,N=WL.length:=⟨_,rfl⟩
 rw[← hNW]
 have HNW:=zh hNW
 have hNW9:NW≤9223372036854775807:=by
  obtain⟨_,_,e,h2,h3,_⟩:=HWS.out.opened
  unfold maxLen at h3
  rw[hNW]
  omega
 clear hw3 hNW hwm3
 obtain⟨pa',pc',hpe,-,-,hp3⟩:=HPS.out.opened
 obtain⟨pb,po,hpa,hpb,hpat⟩:=hp3 0 _ rfl
 obtain⟨rfl,rfl⟩:pa=pa'∧pc=pc':=by
  injection hpe with e1 _ e3
  exact⟨e1,e3⟩
 subst hpa
 simp only[Nat.zero_mul,Nat.add_zero]at hpat
 obtain⟨ys,hys,hist⟩:=HPS.out.2 _ List.mem_cons_self
 simp only at hys hist
 obtain⟨ia,ic,rfl,hicap,-,hi3⟩:=hist.is.opened
 have hyl:ys.length=its.length:=by rw[← hys,List.length_map]
 rw[hyl]at hpat hist hicap
 obtain⟨ni,hni⟩:∃ n,n=its.length:=⟨_,rfl⟩
 rw[← hni]at hpat hist hil hicap
 obtain⟨c0,c1,c2,c3,c4⟩:=hpat
 simp only at c0 c1 c2 c3 c4
 have HIS:=zh hist
 have HI3:=zh hi3
 have HYS:=zh hys
 have HNI:=zh hni
 clear hpe hp3 hist hi3 hys hni hyl
 go_upto_region 51 with fail
 obtain⟨W1,hW1⟩:∃ W1,W1=wb.alloc (.cells #[.int .i64 (who:Int),.int .i64 siz,.string root,.string sl,.slice ia ni ic] 92):=⟨_,rfl⟩
 have HB1:Hid (Below wb.heap.size wb W1):=zh (by rw[hW1];exact br0.alloc (Nat.le_refl _) _)
 have HX1:Hid (W1.heap[wb.heap.size]?=some (.cells #[.int .i64 (who:Int),.int .i64 siz,.string root,.string sl,.slice ia ni ic] 92 (0,0))):=zh (by rw[hW1];exact heap_alloc_new wb _)
 rw[← hW1]
 obtain⟨bp,hbp⟩:∃ b,b=wb.heap.size:=⟨_,rfl⟩
 have hbp1:=hbp
 rw[← hbp]at HX1 ⊢
 have HBP:=zh hbp
 clear hW1 c0 c1 c2 c3 c4 hbp hbp1
 obtain⟨c0,c1,c2,c3,c4⟩:=pfive HX1.out
 cases its with
 | nil =>
  have hn0:ni=0:=HNI.out
  subst hn0
  go_wp2
  go_ret
  exact⟨rfl,HBW.out.trans (HB1.out.mono HBW.out.size)⟩
 | cons x xs =>
 have hnp:ni=xs.length+1:=HNI.out
 have hn1:((ni:Int) == 0)=false:=by simp;omega
 have hn2:¬ (ni:Int)=0:=by omega
 have hn3:(0:Int) < (ni:Int):=by omega
 have HNP:=zh hnp
 clear hnp
 cases ys with
 | nil=>have:=HYS.out;cases this
 | cons y ys =>
 have hyx:y.1=x∧ys.map (·.1)=xs:=by
  have:=HYS.out
  rw[List.map_cons]at this
  injection this with h1 h2
  exact⟨h1,h2⟩
 obtain⟨hy1,hy2⟩:=hyx
 have HY2:=zh hy2
 obtain⟨ib,io,rfl,hib,d0,d1,d2⟩:=HI3.out 0 y rfl
 simp only[Nat.zero_mul,Nat.add_zero]at d0 d1 d2
 obtain⟨y1,yv⟩:=y
 simp only at hy1
 subst hy1
 obtain⟨idx,ent,prf⟩:=y1
 simp only at d0 d1 d2
 obtain⟨va,vn,vc,hyv⟩:∃ a n c,yv=.slice a n c:=by
  obtain⟨a,c,h,_⟩:=(HIS.out.is.2 _ List.mem_cons_self).opened
  exact⟨_,_,_,h⟩
 subst hyv
 obtain⟨hpx1,hpx2⟩:=hip.out _ List.mem_cons_self
 simp only at hpx1 hpx2
 have HGX:=zh (fun v s=>HGG.out _ _ rfl v s)
 have HXP:Hid (∀ y∈xs,y.prf.length≤1000∧y.ent.size≤1000000):=zh (fun y hy=>by
  have:=hip.out y (List.mem_cons_of_mem _ hy)
  exact⟨this.1,by omega⟩)
 have hnr:=atNum_range at1
 have hsr:=atStp_range at1
 have hus:=valN_size value
 have HAT:=zh (fun W=>at_any at1 ix1 W)
 have HVL:=zh (fun W=>valN_any value ix2 W)
 have HCA:=zh (fun W (hW:Below W1.heap.size W1 W)=>castL_any who (by omega) (atNum at1) (atStp at1) (valN value) W (HEB.out.step (q_next HB1.out hW)).env (HEB.out.step (q_next HB1.out hW)).round)
 obtain⟨zn,zs,zv,zl,hcl,hfz⟩:=castL_ok hm hwm (num:=atNum at1) (stp:=atStp at1) (by omega) (by omega) hus
 rw[hcl]at HCA
 simp only[vagg]at HCA
 generalize atNum at1=num at *
 generalize atStp at1=stp at *
 generalize valN value=u at *
 have HEN:=zh (fun W=>enc_yes ⟨(who:Int),zn,zs,zv,zl⟩ hfz W)
 have hes:=enc_most hfz
 obtain⟨S,hS⟩:∃ S,S=encV ⟨(who:Int),zn,zs,zv,zl⟩:=⟨_,rfl⟩
 rw[← hS]at HEN hes
 simp only at HEN
 have HD:=zh (fun W (hW:Below wb.heap.size wb W)=>And.intro (cell_keepB hW hib d0) (And.intro (cell_keepB hW hib d1) (cell_keepB hW hib d2)))
 have HXC:=zh (fun W (hW:Below W1.heap.size W1 W)=>pfive ((hW.block bp (ltA HX1.out)).trans HX1.out))
 clear d0 d1 d2 hcl hfz hS hy2 hnr hsr hus
 go_upto_region 53 with fail
 clear c0 c1 c2 c3 c4
 refine wp_region_noPanic ?_
 refine wp_region_lexB [.q 0,.q 1,.q 2,.q 3,.q 5,.an 8,.b 4,.b 6,.b 7,.co 8,.b 9] (by kernel_rfl) (by kernel_rfl) (fun _ _ _ _ h=>h) ?_
 iterate 5(refine wpFl_qL (v:=?_) rfl (Or.inl ⟨by rfl,?_⟩) ?_;rotate_left;(focus(intro w' hSw;obtain⟨c0,c1,c2,c3,c4⟩:=HXC.out w' hSw;go_simp;(try with_reducible rfl);done));simp only[Act.put,zzA,zzB,zzC])
 refine wpFl_anL rfl (.cells #[.int .i64 0,.int .i64 0,.int .i64 0,.string ⟨#[]⟩,.string ⟨#[]⟩] 27 (0,0)) (fun n=>.pointer (some ⟨n,0,none⟩)) ⟨by rfl,fun w'=>?_⟩ ?_
 focus(go_simp;done)
 refine wpFl_bL rfl (fun waa hnaa hsaa K hK=>?_)
 go_simp
 go_at_call 13
 (with_reducible refine(HAT.out _).mono ?_)
 rintro e wba ⟨rfl,hba⟩
 refine hK.out _ _ (q_next hsaa hba) (Keeps.below hba) ?_
 clear hK K hnaa hsaa
 refine wpFl_bL rfl (fun wab hnab hsab K hK=>?_)
 go_simp
 go_at_call 14
 (with_reducible refine(HVL.out _).mono ?_)
 rintro e wbb ⟨rfl,hbb⟩
 refine hK.out _ _ (q_next hsab hbb) (Keeps.below hbb) ?_
 clear hK K hnab hsab
 refine wpFl_bL rfl (fun wac hnac hsac K hK=>?_)
 go_simp
 go_at_call 43
 (with_reducible refine(HCA.out _ hsac).mono ?_)
 rintro e wbc ⟨rfl,hbc⟩
 refine hK.out _ _ (q_next hsac hbc) (Keeps.below hbc) ?_
 clear hK K hnac hsac
 refine wpFl_coL rfl (.cells #[.int .i64 0,.int .i64 0,.int .i64 0,.string ⟨#[]⟩,.string ⟨#[]⟩] 27 (0,0)) (fun n=>.pointer (some ⟨n,0,none⟩)) (by rfl) (N':=[]) (by rfl) (fun bv wk hn_wk hs_wk hb_bv hz_bv=>?_)
 simp only[Act.put,zzA,zzB,zzC]
 refine wpFl_bL rfl (fun wd hnd hsd K hK=>?_)
 have HZ:=zh ((hnd.block bv (ltA hz_bv)).trans hz_bv)
 obtain⟨y0,y1,y2,y3,y4⟩:=vcellsAt HZ.out
 have yf:∀ j,wd.frozen? ⟨bv,j,none⟩=false:=fun j=>by unfold World.frozen?;rw[HZ.out];simp
 go_simp
 refine hK.out _ _ (vfive_below hsd hb_bv _ _ _ _ _) Keeps.nil ?_
 clear hK K
 have HV7:=zh (vfive_heap HZ.out (.int .i64 (who:Int)) (.int .i64 zn) (.int .i64 zs) (.string zv) (.string zl))
 have HB7:=zh (vfive_below hsd hb_bv (.int .i64 (who:Int)) (.int .i64 zn) (.int .i64 zs) (.string zv) (.string zl))
 have hbv7:W1.heap.size≤bv:=hb_bv
 generalize (((((wd.setCell ⟨bv,0,none⟩ (.int .i64 (who:Int))).setCell ⟨bv,1,none⟩ (.int .i64 zn)).setCell ⟨bv,2,none⟩ (.int .i64 zs)).setCell ⟨bv,3,none⟩ (.string zv)).setCell ⟨bv,4,none⟩ (.string zl))=w7 at *
 clear y0 y1 y2 y3 y4 yf HZ hnd hsd hn_wk hs_wk hz_bv hb_bv HAT HVL HCA
 refine wpFl_nil ?_
 refine NoPanic.normal ?_
 obtain⟨v0,v1,v2,v3,v4⟩:=vcellsAt HV7.out
 go_upto_region 55 with(go_at_call 19;(with_reducible refine(HEN.out _).mono ?_);rintro e w8 ⟨rfl,hb8⟩)
 clear v0 v1 v2 v3 v4 HEN
 have HB8:=zh (q_next HB1.out (q_next HB7.out hb8))
 have HX8:=zh (((q_next HB7.out hb8).block bp (ltA HX1.out)).trans HX1.out)
 have HV8:=zh ((hb8.block bv (ltA HV7.out)).trans HV7.out)
 clear hb8 HV7 HB7
 obtain⟨c0,c1,c2,c3,c4⟩:=pfive HX8.out
 obtain⟨d0,d1,d2⟩:=HD.out w8 HB8.out
 have hbpw:wb.heap.size≤bp:=by rw[HBP.out];exact Nat.le_refl _
 have hbvp:bv≠bp:=by
  have:=(ltA HX1.out)
  omega
 have HPV:=zh (And.intro (HIS.out.is.2 _ List.mem_cons_self) (HIS.out.tp _ List.mem_cons_self))
 have HPY:Hid (∀ y∈ys,SS wb y.2 y.1.prf∧RowTy wb 9 y.2):=zh (fun y hy=>And.intro (HIS.out.is.2 y (List.mem_cons_of_mem _ hy)) (HIS.out.tp y (List.mem_cons_of_mem _ hy)))
 have HY1:Hid (∀ y∈ys,y.2.oneCell'=true):=zh (fun y hy=>by
  obtain⟨a,c,e⟩:=(HPY.out y hy).1.form2
  rw[e]
  rfl)
 simp only at HPV
 have HLS:=zh (fun W (hW:Below w8.heap.size w8 W)=>And.intro (pfive ((hW.block bp (ltA HX8.out)).trans HX8.out)) (HD.out W (q_next HB8.out hW)))
 have hyn:ys.length=ni - 1:=by
  have:=congrArg List.length HY2.out
  rw[List.length_map]at this
  have hnp:=HNP.out
  omega
 have HYL:=zh hyn
 have tn1:(1:Int)≤(ni:Int):=by omega
 have tnc:(ni:Int)≤(ic:Int):=by omega
 have tc1:(1:Int)≤(ic:Int):=by omega
 clear hyn
 go_upto_region 56 with fail
 clear c0 c1 c2 c3 c4 d0 d1 d2
 by_cases hic:ic=1
 ·have hni1:ni=1:=by omega
  subst hni1
  subst hic
  have HYN:Hid (ys=[]):=zh (List.eq_nil_of_length_eq_zero HYL.out)
  refine wp_region_noPanic ?_
  refine wp_region_lexB [.q 0,.q 1,.q 2,.q 3,.q 4,.q 5,.q 6,.q 7,.q 8,.q 9,.q 10,.q 11,.q 13,.q 14,.q 15,.an 12,.co 12,.b 16,.q 17,.l 18] (by kernel_rfl) (by kernel_rfl) (fun _ _ _ _ h=>h) ?_
  iterate 15(refine wpFl_qL (v:=?_) rfl (Or.inl ⟨by rfl,?_⟩) ?_;rotate_left;(focus(intro w' hSw;obtain⟨⟨c0,c1,c2,c3,c4⟩,d0,d1,d2⟩:=HLS.out w' hSw;go_simp;(try with_reducible rfl);done));simp only[Act.put,zzA,zzB,zzC])
  refine wpFl_anL rfl (.cells #[.int .i64 idx,.string S,.slice va vn vc] 98 (0,0)) (fun n=>.slice (some ⟨n,0,none⟩) 1 1) ⟨by rfl,fun w'=>?_⟩ ?_
  focus(go_simp;done)
  refine wpFl_coL rfl (.cells #[.int .i64 idx,.string S,.slice va vn vc] 98 (0,0)) (fun n=>.slice (some ⟨n,0,none⟩) 1 1) (by rfl) (N':=[]) (by rfl) (fun lb w9 hn_w9 hs_w9 hb_lb hz_lb=>?_)
  simp only[Act.put,zzA,zzB,zzC]
  have HLB:=zh hz_lb
  clear hz_lb hn_w9 hb_lb
  refine wpFl_bL rfl (fun wf hnf hsf K hK=>?_)
  have HZf:=zh ((hnf.block lb (ltA HLB.out)).trans HLB.out)
  have HBf:=zh (q_next HB8.out hsf)
  have h1:SliceAt wf (.slice (some ⟨lb,0,none⟩) 1 1) 3 (itcells [((⟨idx,S,prf⟩:ItemP),.slice va vn vc)]):=slice_lit (cs:=itcells [((⟨idx,S,prf⟩:ItemP),.slice va vn vc)]) HZf.out (itcells_len3 _) rfl (by simp[itcells])
  have h2:SliceAt wf (.slice (some ⟨ib,io,none⟩) 0 0) 3 (itcells ys):=by
    rw[HYN.out]
    exact⟨_,_,rfl,Nat.le_refl _,by decide,.inl rfl⟩
  have hty:RowTy wf 98 (.slice (some ⟨lb,0,none⟩) 1 1):=fun a n c e=>by
   injection e with e1 _ _
   injection e1 with e1
   subst e1
   exact .inr ⟨_,_,HZf.out⟩
  refine step_append_anyT 90 98 3 48 _ (by kernel_rfl) infoItem rfl (by decide) rfl _ _ rfl rfl rfl h1 h2 hty (itcells_len3 _) (itcells_len3 ys) (itcells_one3 HY1.out) (by omega) ?_
  intro sv c2 wg hsl htyg hbg
  have e7:1+0=1:=by omega
  rw[e7]at hsl htyg ⊢
  clear e7
  have HSG:=zh (q_next hsf hbg)
  have HBG:=zh (q_next HB8.out HSG.out)
  refine hK.out _ _ HSG.out (Keeps.below hbg) ?_
  clear hK K h1 h2 hty
  have HIT:=zh (IT.bent hsl htyg (HPV.out.1.below HBG.out) (HPV.out.2.below HBG.out) (fun y hy=>⟨(HPY.out y hy).1.below HBG.out,(HPY.out y hy).2.below HBG.out⟩) HY2.out)
  clear hsl htyg
  simp only[Act.put,zzA,zzB,zzC]
  refine wpFl_qL (v:=?_) rfl (Or.inl ⟨by rfl,?_⟩) ?_
  rotate_left
  focus(intro w' hSw;go_simp;(try with_reducible rfl);done)
  simp only[Act.put,zzA,zzB,zzC]
  refine wpFl_lL rfl (fun w10 hn10 hs10 K hK=>?_)
  have HS10:Hid (Below w8.heap.size w8 w10):=zh hs10
  have hx10:=(HS10.out.block bp (ltA HX8.out)).trans HX8.out
  obtain⟨z0,z1,z2,z3,z4⟩:=pfive hx10
  have zf:∀ j,w10.frozen? ⟨bp,j,none⟩=false:=fun j=>by unfold World.frozen?;rw[hx10];simp
  have HT10:=zh (HIT.out.below hn10)
  have HP11:=zh (heap_setCell_same (i:=4) (.slice sv 1 c2) hx10)
  have HI11:=zh (IT.grownT HT10.out hx10 (by decide) (by decide) (grown_setCell (grown_refl _ _) ⟨bp,4,none⟩ (.inl rfl) (.slice sv 1 c2)))
  have HB11:=zh ((q_next HB8.out HS10.out).setCell (p:=⟨bp,4,none⟩) (by exact hbpw) (.slice sv 1 c2))
  have HV11:=zh ((Below.heap_setCell w10 ⟨bp,4,none⟩ (.slice sv 1 c2) bv (by exact hbvp)).trans ((HS10.out.block bv (ltA HV8.out)).trans HV8.out))
  go_simp
  refine hK.out _ _ (NoPanic.normal ?_)
  clear hK K z0 z1 z2 z3 z4 zf hs10 hn10 HIT HT10 HSG HBG hx10 HS10
  generalize w10.setCell ⟨bp,4,none⟩ (.slice sv 1 c2)=w11 at *
  have HCV:=zh (fun W (hW:Below w11.heap.size w11 W)=>vcellsAt ((hW.block bv (ltA HV11.out)).trans HV11.out))
  have HI0:Hid (∀(j:Nat) (u:VoteP),j < 0→WL[j]?=some u→u≠⟨(who:Int),zn,zs,zv,zl⟩):=zh (fun j u h=>by omega)
  go_upto_block 12 with fail
  go_cut [42] (fun i wx=>∃ k:Nat,i=.int .i64 k∧Hid (∀ u∈WL,u≠⟨(who:Int),zn,zs,zv,zl⟩)∧Hid (Below w11.heap.size w11 wx))
  case first =>
   go_wp2
   go_loopw [42] (fun i wr=>∃ k:Nat,k≤NW∧i=.int .i64 k∧Hid (∀(j:Nat) (u:VoteP),j < k→WL[j]?=some u→u≠⟨(who:Int),zn,zs,zv,zl⟩)∧Hid (Below w11.heap.size w11 wr)) (fun i _=>NW - (intOf i).toNat)
   case atStart=>exact⟨0,by omega,rfl,HI0,zh br0⟩
   case round =>
    clear HI0
    obtain⟨k,hk,rfl,hI,hB⟩:=hrel
    by_cases hlt:k < NW
    ·have tk:(k:Int) < (NW:Int):=by omega
     have tk0:(0:Int)≤(k:Int):=by omega
     obtain⟨u,eu⟩:∃ u,WL[k]?=some u:=⟨_,List.getElem?_eq_getElem (by rw[← HNW.out];exact hlt)⟩
     obtain⟨ub,uo,rfl,hub,hua⟩:=HW3.out k u eu
     have HC:=zh (fun W (hW:Below wr.heap.size wr W)=>And.intro (hua.keep (HB11.out.trans ((q_next hB.out hW).mono HB11.out.size)) hub) (HCV.out W (q_next hB.out hW)))
     have HEQ:=zh (fun W=>eqlVote u ⟨(who:Int),zn,zs,zv,zl⟩ W)
     obtain⟨eq,heq⟩:∃ eq,eq=decide (u=⟨(who:Int),zn,zs,zv,zl⟩):=⟨_,rfl⟩
     rw[← heq]at HEQ
     have HEE:=zh heq
     have HEU:=zh eu
     obtain⟨ucar,unum,ustp,uv,ul⟩:=u
     simp only[vagg]at HEQ
     (try simp only at HC)
     have hel:=HEQ.out
     clear eu hua heq
     go_upto_region 60 with fail
     refine wp_region_noPanic ?_
     refine wp_region_lexB [.q 0,.q 1,.q 2,.q 3,.q 4,.q 5] (by kernel_rfl) (by kernel_rfl) (fun _ _ _ _ h=>h) ?_
     iterate 6(refine wpFl_qL (v:=?_) rfl (Or.inl ⟨by rfl,?_⟩) ?_;rotate_left;(focus(intro w' hSw;obtain⟨⟨e0,e1,e2,e3,e4⟩,v0,v1,v2,v3,v4⟩:=HC.out w' hSw;go_simp;(try with_reducible rfl);done));simp only[Act.put,zzA,zzB,zzC])
     refine wpFl_nil ?_
     refine NoPanic.normal ?_
     cases eq with
     | true =>
      go_wp2
      go_ret
      exact⟨rfl,HBW.out.trans ((HB11.out.trans ((Below.drew hB.out).mono HB11.out.size)).mono HBW.out.size)⟩
     | false =>
      go_wp2
      go_roundw
      case rel=>exact⟨k+1,by omega,by go_num,zh (fun j u hj hu=>by
       rcases Nat.lt_or_ge j k with h | h
       ·exact hI.out j u h hu
       ·obtain rfl:j=k:=by omega
        rw[HEU.out]at hu
        cases hu
        exact of_decide_eq_false HEE.out.symm),zh (Below.drew hB.out)⟩
      case measure=>simp[intOf];omega
    ·obtain rfl:k=NW:=by omega
     have tk:¬ (k:Int) < (k:Int):=by omega
     go_wp2
     go_meet
     case rel=>exact⟨k,rfl,zh (fun u hu=>by
      obtain⟨j,hj⟩:=List.getElem?_of_mem hu
      exact hI.out j u (by rw[HNW.out];exact(List.getElem?_eq_some_iff.1 hj).1) hj),hB⟩
  case rest =>
  obtain⟨k,hk42,hNI,hBc⟩:=hcut
  rename_i hKK
  have HBD:=zh (HB11.out.trans (hBc.out.mono HB11.out.size))
  have HBZ:=zh (HBW.out.trans (HBD.out.mono HBW.out.size))
  have HEZ:=zh (HEB.out.step HBD.out)
  have HKZ:=zh (HK.out.below HBD.out)
  have HCZ:=zh (fun W (hW:Below wc.heap.size wc W)=>HCB.out W (q_next HBD.out hW))
  have HPZ:=zh ((hBc.out.block bp (ltA HP11.out)).trans HP11.out)
  have HIZ:=zh (IT.below HI11.out hBc.out)
  have HVZ:=zh ((hBc.out.block bv (ltA HV11.out)).trans HV11.out)
  have HGZ:=zh (fun h=>HGX.out ⟨(who:Int),zn,zs,zv,zl⟩ S h (fun hm=>hNI.out _ hm rfl))
  (try simp only at HGZ)
  have hS1:S.size≤1000:=by omega
  have hxl:xs.length≤100:=by have:=HNP.out;omega
  refine hKK _ _ (wp_of_eqM (meets_last HBZ HEZ bc bp bv m kc who kb ko 1 sv c2 siz zn zs root sl S ent zv zl ⟨idx,ent,prf⟩ xs hm hwm hsz hS1 hpx2 hrt hxl hpx1 HXP HKZ HCZ HPZ HIZ HVZ HGZ).choose_spec.2 ?_)
  exact tailQM1 (meets_last HBZ HEZ bc bp bv m kc who kb ko 1 sv c2 siz zn zs root sl S ent zv zl ⟨idx,ent,prf⟩ xs hm hwm hsz hS1 hpx2 hrt hxl hpx1 HXP HKZ HCZ HPZ HIZ HVZ HGZ).choose_spec.1
 ·have hic1:¬ (ic:Int)=1:=by omega
  have hn4:0 < ni:=by omega
  have hn5:1≤ni:=by omega
  refine wp_region_noPanic ?_
  refine wp_region_lexB [.q 0,.q 1,.q 2,.q 3,.q 4,.q 5,.q 6,.q 7,.q 8,.q 9,.q 10,.q 11,.q 13,.q 14,.q 15,.an 12,.co 12,.b 16,.q 17,.l 18] (by kernel_rfl) (by kernel_rfl) (fun _ _ _ _ h=>h) ?_
  iterate 15(refine wpFl_qL (v:=?_) rfl (Or.inl ⟨by rfl,?_⟩) ?_;rotate_left;(focus(intro w' hSw;obtain⟨⟨c0,c1,c2,c3,c4⟩,d0,d1,d2⟩:=HLS.out w' hSw;go_simp;(try with_reducible rfl);done));simp only[Act.put,zzA,zzB,zzC])
  refine wpFl_anL rfl (.cells #[.int .i64 idx,.string S,.slice va vn vc] 98 (0,0)) (fun n=>.slice (some ⟨n,0,none⟩) 1 1) ⟨by rfl,fun w'=>?_⟩ ?_
  focus(go_simp;done)
  refine wpFl_coL rfl (.cells #[.int .i64 idx,.string S,.slice va vn vc] 98 (0,0)) (fun n=>.slice (some ⟨n,0,none⟩) 1 1) (by rfl) (N':=[]) (by rfl) (fun lb w9 hn_w9 hs_w9 hb_lb hz_lb=>?_)
  simp only[Act.put,zzA,zzB,zzC]
  have HLB:=zh hz_lb
  clear hz_lb hn_w9 hb_lb
  refine wpFl_bL rfl (fun wf hnf hsf K hK=>?_)
  have HZf:=zh ((hnf.block lb (ltA HLB.out)).trans HLB.out)
  have HBf:=zh (q_next HB8.out hsf)
  have h1:SliceAt wf (.slice (some ⟨lb,0,none⟩) 1 1) 3 (itcells [((⟨idx,S,prf⟩:ItemP),.slice va vn vc)]):=slice_lit (cs:=itcells [((⟨idx,S,prf⟩:ItemP),.slice va vn vc)]) HZf.out (itcells_len3 _) rfl (by simp[itcells])
  have h2:SliceAt wf (.slice (some ⟨ib,io+3,none⟩) (ni - 1) (ic - 1)) 3 (itcells ys):=by
    have r:=SliceAt.rest (SliceAt.below HIS.out.is.1 HBf.out) 1 (by omega)
    exact r
  have hty:RowTy wf 98 (.slice (some ⟨lb,0,none⟩) 1 1):=fun a n c e=>by
   injection e with e1 _ _
   injection e1 with e1
   subst e1
   exact .inr ⟨_,_,HZf.out⟩
  refine step_append_anyT 90 98 3 48 _ (by kernel_rfl) infoItem rfl (by decide) rfl _ _ rfl rfl rfl h1 h2 hty (itcells_len3 _) (itcells_len3 ys) (itcells_one3 HY1.out) (by omega) ?_
  intro sv c2 wg hsl htyg hbg
  have e7:1+(ni - 1)=ni:=by omega
  rw[e7]at hsl htyg ⊢
  clear e7
  have HSG:=zh (q_next hsf hbg)
  have HBG:=zh (q_next HB8.out HSG.out)
  refine hK.out _ _ HSG.out (Keeps.below hbg) ?_
  clear hK K h1 h2 hty
  have HIT:=zh (IT.bent hsl htyg (HPV.out.1.below HBG.out) (HPV.out.2.below HBG.out) (fun y hy=>⟨(HPY.out y hy).1.below HBG.out,(HPY.out y hy).2.below HBG.out⟩) HY2.out)
  clear hsl htyg
  simp only[Act.put,zzA,zzB,zzC]
  refine wpFl_qL (v:=?_) rfl (Or.inl ⟨by rfl,?_⟩) ?_
  rotate_left
  focus(intro w' hSw;go_simp;(try with_reducible rfl);done)
  simp only[Act.put,zzA,zzB,zzC]
  refine wpFl_lL rfl (fun w10 hn10 hs10 K hK=>?_)
  have HS10:Hid (Below w8.heap.size w8 w10):=zh hs10
  have hx10:=(HS10.out.block bp (ltA HX8.out)).trans HX8.out
  obtain⟨z0,z1,z2,z3,z4⟩:=pfive hx10
  have zf:∀ j,w10.frozen? ⟨bp,j,none⟩=false:=fun j=>by unfold World.frozen?;rw[hx10];simp
  have HT10:=zh (HIT.out.below hn10)
  have HP11:=zh (heap_setCell_same (i:=4) (.slice sv ni c2) hx10)
  have HI11:=zh (IT.grownT HT10.out hx10 (by decide) (by decide) (grown_setCell (grown_refl _ _) ⟨bp,4,none⟩ (.inl rfl) (.slice sv ni c2)))
  have HB11:=zh ((q_next HB8.out HS10.out).setCell (p:=⟨bp,4,none⟩) (by exact hbpw) (.slice sv ni c2))
  have HV11:=zh ((Below.heap_setCell w10 ⟨bp,4,none⟩ (.slice sv ni c2) bv (by exact hbvp)).trans ((HS10.out.block bv (ltA HV8.out)).trans HV8.out))
  go_simp
  refine hK.out _ _ (NoPanic.normal ?_)
  clear hK K z0 z1 z2 z3 z4 zf hs10 hn10 HIT HT10 HSG HBG hx10 HS10
  generalize w10.setCell ⟨bp,4,none⟩ (.slice sv ni c2)=w11 at *
  have HCV:=zh (fun W (hW:Below w11.heap.size w11 W)=>vcellsAt ((hW.block bv (ltA HV11.out)).trans HV11.out))
  have HI0:Hid (∀(j:Nat) (u:VoteP),j < 0→WL[j]?=some u→u≠⟨(who:Int),zn,zs,zv,zl⟩):=zh (fun j u h=>by omega)
  go_upto_block 12 with fail
  go_cut [42] (fun i wx=>∃ k:Nat,i=.int .i64 k∧Hid (∀ u∈WL,u≠⟨(who:Int),zn,zs,zv,zl⟩)∧Hid (Below w11.heap.size w11 wx))
  case first =>
   go_wp2
   go_loopw [42] (fun i wr=>∃ k:Nat,k≤NW∧i=.int .i64 k∧Hid (∀(j:Nat) (u:VoteP),j < k→WL[j]?=some u→u≠⟨(who:Int),zn,zs,zv,zl⟩)∧Hid (Below w11.heap.size w11 wr)) (fun i _=>NW - (intOf i).toNat)
   case atStart=>exact⟨0,by omega,rfl,HI0,zh br0⟩
   case round =>
    clear HI0
    obtain⟨k,hk,rfl,hI,hB⟩:=hrel
    by_cases hlt:k < NW
    ·have tk:(k:Int) < (NW:Int):=by omega
     have tk0:(0:Int)≤(k:Int):=by omega
     obtain⟨u,eu⟩:∃ u,WL[k]?=some u:=⟨_,List.getElem?_eq_getElem (by rw[← HNW.out];exact hlt)⟩
     obtain⟨ub,uo,rfl,hub,hua⟩:=HW3.out k u eu
     have HC:=zh (fun W (hW:Below wr.heap.size wr W)=>And.intro (hua.keep (HB11.out.trans ((q_next hB.out hW).mono HB11.out.size)) hub) (HCV.out W (q_next hB.out hW)))
     have HEQ:=zh (fun W=>eqlVote u ⟨(who:Int),zn,zs,zv,zl⟩ W)
     obtain⟨eq,heq⟩:∃ eq,eq=decide (u=⟨(who:Int),zn,zs,zv,zl⟩):=⟨_,rfl⟩
     rw[← heq]at HEQ
     have HEE:=zh heq
     have HEU:=zh eu
     obtain⟨ucar,unum,ustp,uv,ul⟩:=u
     simp only[vagg]at HEQ
     (try simp only at HC)
     have hel:=HEQ.out
     clear eu hua heq
     go_upto_region 60 with fail
     refine wp_region_noPanic ?_
     refine wp_region_lexB [.q 0,.q 1,.q 2,.q 3,.q 4,.q 5] (by kernel_rfl) (by kernel_rfl) (fun _ _ _ _ h=>h) ?_
     iterate 6(refine wpFl_qL (v:=?_) rfl (Or.inl ⟨by rfl,?_⟩) ?_;rotate_left;(focus(intro w' hSw;obtain⟨⟨e0,e1,e2,e3,e4⟩,v0,v1,v2,v3,v4⟩:=HC.out w' hSw;go_simp;(try with_reducible rfl);done));simp only[Act.put,zzA,zzB,zzC])
     refine wpFl_nil ?_
     refine NoPanic.normal ?_
     cases eq with
     | true =>
      go_wp2
      go_ret
      exact⟨rfl,HBW.out.trans ((HB11.out.trans ((Below.drew hB.out).mono HB11.out.size)).mono HBW.out.size)⟩
     | false =>
      go_wp2
      go_roundw
      case rel=>exact⟨k+1,by omega,by go_num,zh (fun j u hj hu=>by
       rcases Nat.lt_or_ge j k with h | h
       ·exact hI.out j u h hu
       ·obtain rfl:j=k:=by omega
        rw[HEU.out]at hu
        cases hu
        exact of_decide_eq_false HEE.out.symm),zh (Below.drew hB.out)⟩
      case measure=>simp[intOf];omega
    ·obtain rfl:k=NW:=by omega
     have tk:¬ (k:Int) < (k:Int):=by omega
     go_wp2
     go_meet
     case rel=>exact⟨k,rfl,zh (fun u hu=>by
      obtain⟨j,hj⟩:=List.getElem?_of_mem hu
      exact hI.out j u (by rw[HNW.out];exact(List.getElem?_eq_some_iff.1 hj).1) hj),hB⟩
  case rest =>
  obtain⟨k,hk42,hNI,hBc⟩:=hcut
  rename_i hKK
  have HBD:=zh (HB11.out.trans (hBc.out.mono HB11.out.size))
  have HBZ:=zh (HBW.out.trans (HBD.out.mono HBW.out.size))
  have HEZ:=zh (HEB.out.step HBD.out)
  have HKZ:=zh (HK.out.below HBD.out)
  have HCZ:=zh (fun W (hW:Below wc.heap.size wc W)=>HCB.out W (q_next HBD.out hW))
  have HPZ:=zh ((hBc.out.block bp (ltA HP11.out)).trans HP11.out)
  have HIZ:=zh (IT.below HI11.out hBc.out)
  have HVZ:=zh ((hBc.out.block bv (ltA HV11.out)).trans HV11.out)
  have HGZ:=zh (fun h=>HGX.out ⟨(who:Int),zn,zs,zv,zl⟩ S h (fun hm=>hNI.out _ hm rfl))
  (try simp only at HGZ)
  have hS1:S.size≤1000:=by omega
  have hxl:xs.length≤100:=by have:=HNP.out;omega
  refine hKK _ _ (wp_of_eqM (meets_last HBZ HEZ bc bp bv m kc who kb ko ni sv c2 siz zn zs root sl S ent zv zl ⟨idx,ent,prf⟩ xs hm hwm hsz hS1 hpx2 hrt hxl hpx1 HXP HKZ HCZ HPZ HIZ HVZ HGZ).choose_spec.2 ?_)
  exact tailQM1 (meets_last HBZ HEZ bc bp bv m kc who kb ko ni sv c2 siz zn zs root sl S ent zv zl ⟨idx,ent,prf⟩ xs hm hwm hsz hS1 hpx2 hrt hxl hpx1 HXP HKZ HCZ HPZ HIZ HVZ HGZ).choose_spec.1
theorem tallyV_no {ks:List ByteArray}{num stp:Int}{l:List VoteP}(h:isPool ks l=false):tallyV ks num stp l=[]:=by
 unfold tallyV
 rw[if_neg (by rw[h];decide)]
theorem tallyV_yes {ks:List ByteArray}{num stp:Int}{l:List VoteP}(h:isPool ks l=true):tallyV ks num stp l=(valsV ks num stp l).map fun u=>(u,(whoL ks num stp u l).length):=by
 unfold tallyV
 rw[if_pos h]
def TalIs (w:World)(l:List (ByteArray × Nat))(e:Ending)(w':World):Prop:=∃ v,e=.returned v∧TS w' v l∧Below w.heap.size w w'
def TlAt (w:World)(b B n:Nat)(D:DW)(x:Value)(xs:List ByteArray)(v:Value)(l:List (ByteArray × Nat))(W:World):Prop :=
 Below w.heap.size w W∧MapU W B n D∧OwnS W b x xs∧OwnT W b v l
theorem TlAt.append {w W W':World}{b B n:Nat}{D:DW}{x:Value}{xs:List ByteArray}{v v':Value}{l l':List (ByteArray × Nat)}(hwb:w.heap.size≤b)(h:TlAt w b B n D x xs v l W){o:Obj}(hg:(W.alloc o).grownBy W' v.ownBlock)(ho:OwnT W' b v' l'):TlAt w b B n D x xs v' l' W':=by
 have hmb:some B≠v.ownBlock:=fun e=>by
  rcases h.2.2.2.2 with⟨rfl,_⟩ | ⟨g,cap,cur,rfl,_,hg,_⟩
  ·simp[Value.ownBlock]at e
  ·have e':B=g:=by simpa [Value.ownBlock]using e
   obtain⟨es,clock,hb,_⟩:=h.2.1
   rw[e',hg]at hb
   cases hb
 refine⟨(h.1.alloc h.1.size o).grown hg (by have:=h.1.size;simp;omega) (fun j e=>Nat.le_trans hwb (OwnE.ge h.2.2.2 j e)),?_,?_,ho⟩
 ·exact World.ownsMap.kept (World.ownsMap.kept h.2.1 (World.grownBy_alloc W o none) (by simp)) hg hmb
 ·exact OwnE.other (OwnE.alloc h.2.2.2 o) (OwnE.alloc h.2.2.1 o) (by decide) hg
set_option maxHeartbeats 8000000 in
set_option maxRecDepth 100000 in
theorem tallies_any {w:World}{kv x:Value}{ks:List ByteArray}{l:List VoteP}(hr:SS w kv ks)(hl:VS w x l)(num stp:Int)(he:Env w)(hg:3 < w.heap.size) :
  Calls Tryz.prog 38 #[.agg #[kv],.agg #[.int .i64 num,.int .i64 stp],x] w (TalIs w (tallyV ks num stp l)):=by
 obtain⟨ka,kcap,rfl,kl1,kl2,kl3⟩:=hr.opened
 obtain⟨a,cap,rfl,_,_,_⟩:=hl.opened
 obtain⟨W2,hW2⟩:∃ W2,W2=(w.alloc (.cells #[.slice ka ks.length kcap] 31)).alloc (.cells #[.int .i64 num,.int .i64 stp] 25):=⟨_,rfl⟩
 have HP2:Hid (PrAt w (.slice ka ks.length kcap) num stp (.slice none 0 0) [] W2):=zh ⟨by rw[hW2];exact(br0.alloc (Nat.le_refl _) _).alloc (by simp) _,by rw[hW2];exact at_past w _ _,by rw[hW2];exact at_second w _ _,OwnE.nil _ _ _ _⟩
 have HR:=zh hr
 have HL:=zh hl
 have HE:=zh he
 have HG:=zh hg
 have HIP:=zh (isPool_any (HR.out.below HP2.out.1) (HL.out.below HP2.out.1))
 have HW2:=zh hW2
 clear hr hl he hg hW2 kl3
 obtain⟨c0,c1,c2⟩:=HP2.out.cells
 cases hip:isPool ks l with
 | false =>
  have HRes:=zh (tallyV_no (num:=num) (stp:=stp) hip)
  rw[hip]at HIP
  rw[HRes.out]
  clear hip HRes
  go_enter Tryz.func38,Tryz.ntmps38
  go_upto_region 1 with fail
  rw[← HW2.out]
  go_wp2_with (go_at_call 76;refine HIP.out.mono ?_;rintro e w1 ⟨rfl,hb1⟩)
  go_ret
  exact⟨_,rfl,TS.nil _,q_next HP2.out.1 hb1⟩
 | true =>
  rw[hip]at HIP
  have hvc:validC ks=true:=by unfold isPool at hip;rw[Bool.and_eq_true]at hip;exact hip.1
  have HKS:=zh (valid_sizes hvc)
  have hk8:ks.length≤8:=by have:=valid_le hvc;omega
  have HK8:=zh hk8
  have HRes:=zh (tallyV_yes (num:=num) (stp:=stp) hip)
  have hl60:l.length≤60:=by
   unfold isPool at hip
   rw[Bool.and_eq_true]at hip
   exact of_decide_eq_true hip.2
  clear hip hvc
  go_enter Tryz.func38,Tryz.ntmps38
  go_upto_region 1 with fail
  rw[← HW2.out]
  go_upto_region 3 with(go_at_call 76;refine HIP.out.mono ?_;rintro e w1 ⟨rfl,hb1⟩)
  have HP3:=zh (HP2.out.far hb1)
  clear hb1 c0 c1 c2 HIP
  obtain⟨c0,c1,c2⟩:=HP3.out.cells
  go_wp2_with fail
  refine(votes_any (HR.out.below HP3.out.1) HKS.out (HL.out.below HP3.out.1) num stp (HE.out.below HP3.out.1 HG.out) (Nat.lt_of_lt_of_le HG.out HP3.out.1.size)).mono ?_
  rintro e w3 ⟨B,mm,D,rfl,hM,hRd,hBge,hb3⟩
  have HB3:=zh (q_next HP3.out.1 hb3)
  have HM3:=zh hM
  have HRD:=zh hRd
  clear hM hRd hb3 c0 c1 c2 HP3 HP2 HW2
  go_wp2_with fail
  refine(keysU_any _ _).mono ?_
  rintro e w4 ⟨rfl,hw4⟩
  have HB4:Hid (Below w3.heap.size w3 w4):=zh (by rw[hw4];exact br0.alloc (Nat.le_refl _) _)
  have hc4:w4.cell? ⟨w3.heap.size,0,none⟩=some (.map (some B)):=cell_of_row w4 _ 0 _ _ _ (by rw[hw4];exact heap_alloc_new w3 _)
  have hs4:w3.heap.size < w4.heap.size:=by rw[hw4];simp
  clear hw4
  have HSO:=zh (sortedU_any HK8.out hc4 hs4 (HM3.out.below HB4.out) (by omega) HRD.out)
  clear hc4
  go_wp2_with fail
  refine HSO.out.mono ?_
  rintro e w5 ⟨sv,rfl,hos,hb5⟩
  obtain⟨xs,hxs⟩:∃ xs,xs=valsV ks num stp l:=⟨_,rfl⟩
  rw[← hxs]at hos
  obtain⟨sa,sc,hsv⟩:=OwnE.form hos
  have hlx:(scells xs).length=xs.length:=by unfold scells;rw[List.length_map]
  rw[hlx]at hsv
  subst hsv
  have hx60:xs.length≤60:=by rw[hxs];exact Nat.le_trans (valsV_len _ _ _ _) hl60
  obtain⟨n,hn⟩:∃ n,n=xs.length:=⟨_,rfl⟩
  rw[← hn]at hos hx60 ⊢
  have HXS:=zh hxs
  have HN:=zh hn
  have hwb:w.heap.size≤w4.heap.size:=Nat.le_trans HB3.out.size (Nat.le_of_lt hs4)
  have HT0:Hid (TlAt w w4.heap.size B mm D (.slice sa n sc) xs (.slice none 0 0) [] w5):=zh ⟨q_next (q_next HB3.out HB4.out) hb5,(HM3.out.below HB4.out).below hb5,hos,OwnE.nil _ _ _ _⟩
  clear hos hb5 hxs hn HSO HB4 HM3 HB3 hs4 hlx
  go_wp2
  go_loopw [8,23] (fun out i wr=>∃(k:Nat) (va:Option Addr) (vc:Nat),k≤n∧i=.int .i64 k∧out=.slice va k vc∧Hid (TlAt w w4.heap.size B mm D (.slice sa n sc) xs (.slice va k vc) ((xs.take k).map fun u=>(u,(whoL ks num stp u l).length)) wr)) (fun _ i _=>n - (intOf i).toNat)
  case atStart=>exact⟨0,none,0,by omega,rfl,rfl,HT0⟩
  case round =>
   obtain⟨k,va,vc,hk,rfl,rfl,hP⟩:=hrel
   by_cases hlt:k < n
   ·obtain⟨y,ey⟩:∃ y,xs[k]?=some y:=⟨_,List.getElem?_eq_getElem (by rw[← HN.out];exact hlt)⟩
    have hss:SS wr (.slice sa n sc) xs:=OwnE.slice hP.out.2.2.1 (scells_one xs)
    obtain⟨a2,c2,e2,_,_,h3⟩:=hss.opened
    obtain⟨b',o',hbo,hb',d0⟩:=h3 k y ey
    have he1:sa=some ⟨b',o',none⟩:=by
     injection e2 with e3 _ _
     rw[e3]
     exact hbo
    subst he1
    have hmem:y∈valsV ks num stp l:=by rw[← HXS.out];exact List.mem_of_getElem? ey
    obtain⟨i0,hi0⟩:=valsV_mem.1 hmem
    have hy32:y.size=32:=(gen_facts (who_gen hi0)).2.2.2.2
    have hlk:=MapU.look hP.out.2.1 HRD.out y (by rw[hy32];decide)
    have hM256:=mask_lt ks num stp y l 0 (by decide)
    have HON:=zh (fun W=>onesU_any (maskV ks num stp y l 0) W hM256)
    rw[mask_who HK8.out num stp y l]at HON
    have HTK:Hid (((xs.take (k+1)).map fun u=>(u,(whoL ks num stp u l).length))=((xs.take k).map fun u=>(u,(whoL ks num stp u l).length))++[(y,(whoL ks num stp y l).length)]):=zh (by
     rw[take_snocQ ey,List.map_append]
     rfl)
    have hln:((xs.take k).map fun u=>(u,(whoL ks num stp u l).length)).length=k:=by
     rw[List.length_map,List.length_take,← HN.out]
     omega
    generalize maskV ks num stp y l 0=M at *
    generalize (whoL ks num stp y l).length=Wn at *
    clear hss e2 h3 hbo hb' ey hmem hi0 hM256
    have hk0:(k:Int) < (n:Int):=by omega
    go_wp2_with (first | (go_at_call 78;refine(HON.out _).mono ?_;rintro e w6 ⟨rfl,rfl⟩) | (at_builtin;refine wpList_append_tally (.tmp 27) (.tmp 34) w4.heap.size (.slice va k vc) _ (y,Wn) wr.heap.size (0,0) (OwnE.alloc hP.out.2.2.2 _) (by rw[hln];omega) (by have h1:=hP.out.1.size;have h2:=OwnE.ge hP.out.2.2.1 b' rfl;have h3:=(World.ownsRow.lt hP.out.2.2.1 b' rfl).2;simp;omega) (heap_alloc_new _ _) rfl rfl rfl rfl ?_;intro v9 w9 ho9 hg9;have HP9:=zh (hP.out.append hwb hg9 ho9);clear hg9;obtain⟨va9,vc9,hv9⟩:=ho9.form;rw[List.length_append,hln]at hv9;simp only[List.length_cons,List.length_nil,Nat.zero_add]at hv9;clear ho9;subst hv9))
    go_roundw
    case rel =>
     refine⟨k+1,va9,vc9,by omega,by go_num,rfl,?_⟩
     rw[HTK.out]
     exact HP9
    case measure=>simp[intOf];omega
   ·obtain rfl:k=n:=by omega
    go_wp2
    go_ret
    refine⟨_,rfl,?_,hP.out.1⟩
    have h1:=hP.out.2.2.2.ts
    rw[HRes.out,← HXS.out]
    rw[HN.out,List.take_length]at h1
    rw[HN.out]
    exact h1
set_option maxHeartbeats 2000000 in
set_option maxRecDepth 100000 in
theorem decfn_any (ka:Option Addr)(kn kc:Nat)(en:Nat)(b0:Nat)(s:ByteArray)(t:Nat)(W:World)(hk:kn≤1000)(hen:en=2*((kn - 1) / 3)+1)(h0:W.heap[b0]?=some (.cells #[.slice ka kn kc] 31 (0,0))) :
  Calls Tryz.prog 87 #[.agg #[.string s,.int .i64 (t:Int)],.pointer (some ⟨b0,0,none⟩)] W fun e w'=>e=.returned (.bool (decide (en≤t)))∧Below W.heap.size W w':=by
 have HENC:Hid (∀ W,Calls Tryz.prog 79 #[.agg #[.slice ka kn kc]] W fun e w'=>e=.returned (.int .i64 ((en:Nat):Int))∧Below W.heap.size W w'):=zh (fun W=>by
  refine(enough_any ka kn kc W hk).mono ?_
  rintro e w' ⟨rfl,rfl⟩
  rw[hen]
  exact⟨rfl,br0.alloc (Nat.le_refl _) _⟩)
 obtain⟨W1,hW1⟩:∃ W1,W1=W.alloc (.cells #[.string s,.int .i64 (t:Int)] 68):=⟨_,rfl⟩
 have HB1:Hid (Below W.heap.size W W1):=zh (by rw[hW1];exact br0.alloc (Nat.le_refl _) _)
 have HH1:Hid (W1.heap[W.heap.size]?=some (.cells #[.string s,.int .i64 (t:Int)] 68 (0,0))):=zh (by rw[hW1];exact heap_alloc_new W _)
 have HC:Hid (∀ X,Below W1.heap.size W1 X→X.cell? ⟨W.heap.size,1,none⟩=some (.int .i64 (t:Int))∧X.cell? ⟨b0,0,none⟩=some (.slice ka kn kc)):=zh (fun X hX =>
  ⟨cell_of_row X _ 1 _ _ _ ((hX.block _ (ltA HH1.out)).trans HH1.out),cell_of_row X _ 0 _ _ _ (((HB1.out.trans (hX.mono HB1.out.size)).block _ (ltA h0)).trans h0)⟩)
 have HW1:=zh hW1
 clear hW1 h0 hen hk
 go_enter Tryz.func87,Tryz.ntmps87
 go_upto_region 1 with fail
 rw[← HW1.out]
 refine wp_region_noPanic ?_
 refine wp_region_lexB [.q 0,.q 1,.q 2,.b 3,.q 4,.q 5] (by kernel_rfl) (by kernel_rfl) (fun _ _ _ _ h=>h) ?_
 iterate 3(refine wpFl_qL (v:=?_) rfl (Or.inl ⟨by rfl,?_⟩) ?_;rotate_left;(focus(intro w' hSw;obtain⟨d0,d1⟩:=HC.out w' hSw;go_simp;(try with_reducible rfl);done));simp only[Act.put,zzA,zzB,zzC])
 refine wpFl_bL rfl (fun wb hnb hsb K hK=>?_)
 go_simp
 go_at_call 79
 refine(HENC.out wb).mono ?_
 rintro e wc ⟨rfl,hbc⟩
 have HBC:=zh (q_next hsb hbc)
 refine hK.out _ _ HBC.out (Keeps.below hbc) ?_
 clear hK K hnb hsb hbc
 iterate 2(refine wpFl_qL (v:=?_) rfl (Or.inl ⟨by rfl,?_⟩) ?_;rotate_left;(focus(intro w' hSw;go_simp;(try with_reducible rfl);done));simp only[Act.put,zzA,zzB,zzC])
 refine wpFl_nil ?_
 refine NoPanic.normal ?_
 go_wp2
 go_ret
 refine⟨ret_bool ?_,q_next HB1.out HBC.out⟩
 rfl
set_option maxHeartbeats 2000000 in
theorem indexT_any (b0:Nat)(p:ByteArray × Nat→Bool){w:World}{x:Value}{l:List (ByteArray × Nat)}(hi:TS w x l)
  (ht:∀(W:World) (y:ByteArray × Nat),Below w.heap.size w W→Calls Tryz.prog 87 #[.agg #[.string y.1,.int .i64 (y.2:Int)],.pointer (some ⟨b0,0,none⟩)] W fun e w'=>e=.returned (.bool (p y))∧Below W.heap.size W w') :
  Calls Tryz.prog 86 #[x,.func (.func 87) #[] #[.pointer (some ⟨b0,0,none⟩)]] w fun e w'=>e=.returned (.int .i64 (firstIdx p l 0))∧Below w.heap.size w w':=by
 obtain⟨a,cap,rfl,l1,l2,l3⟩:=hi.opened
 have H3:=zh l3
 have HT:=zh ht
 clear l3 hi ht
 unfold maxLen at l2
 obtain⟨n,hn⟩:∃ n,n=l.length:=⟨_,rfl⟩
 rw[← hn]at l1 ⊢
 have HN:=zh hn
 clear hn
 go_enter Tryz.func86,Tryz.ntmps86
 go_wp2
 go_loopw [8] (fun i wr=>∃ k:Nat,k≤n∧i=.int .i64 k∧Hid (∀ j q,j < k→l[j]?=some q→p q=false)∧Hid (Below w.heap.size w wr)) (fun i wr=>n - (intOf i).toNat)
 case atStart=>exact⟨0,by omega,rfl,(by intro j q hj;omega),Below.refl _ _⟩
 case round =>
  obtain⟨k,hk,rfl,hall,hB⟩:=hrel
  by_cases hlt:k < n
  ·obtain⟨y,ey⟩:∃ y,l[k]?=some y:=⟨_,List.getElem?_eq_getElem (by rw[← HN.out];exact hlt)⟩
   obtain⟨b,off,rfl,hb,c0,c1⟩:=H3.out k y ey
   have d0:=cell_keepB hB.out hb c0
   have d1:=cell_keepB hB.out hb c1
   clear c0 c1
   have HC:=zh (HT.out wr y hB.out)
   have EY:=zh ey
   obtain⟨P0,hP0⟩:∃ P0,P0=p y:=⟨_,rfl⟩
   rw[← hP0]at HC
   have HP0:=zh hP0
   clear ey hP0
   obtain⟨ys,yt⟩:=y
   simp only at d0 d1 HC
   have s1:=hB.out.size
   cases P0
   ·go_wp2_with (go_at_call 87;refine HC.out.mono ?_;rintro e w1 ⟨rfl,hb1⟩)
    go_roundw
    case rel =>
     refine⟨k+1,by omega,by go_num,?_,hB.out.trans (hb1.mono s1)⟩
     intro j q' hj hq
     by_cases hjk:j=k
     ·subst hjk;rw[EY.out]at hq;cases hq;exact HP0.out.symm
     ·exact hall.out j q' (by omega) hq
    case measure=>simp[intOf];omega
   ·go_wp2_with (go_at_call 87;refine HC.out.mono ?_;rintro e w1 ⟨rfl,hb1⟩)
    go_ret
    refine⟨ret_int ?_,hB.out.trans (hb1.mono s1)⟩
    rw[firstIdx_drop p l k 0 hall.out (by rw[← HN.out];omega)]
    rw[drop_get EY.out,firstIdx,if_pos HP0.out.symm];omega
  ·go_wp2
   go_ret
   refine⟨ret_int ?_,hB.out⟩
   rw[firstIdx_drop p l k 0 hall.out (by rw[← HN.out];omega),List.drop_eq_nil_of_le (by rw[← HN.out];omega),firstIdx]
theorem firstIdx_find {α:Type}(p:α→Bool):∀(l:List α) (k:Int),(firstIdx p l k=-1∧l.find? p=none)∨∃(j:Nat) (u:α),firstIdx p l k=k+(j:Int)∧l[j]?=some u∧l.find? p=some u
 | [],k=>.inl ⟨rfl,rfl⟩
 | v::t,k=>by
  rw[firstIdx]
  by_cases h:p v=true
  ·rw[if_pos h,List.find?_cons_of_pos h]
   exact .inr ⟨0,v,by omega,rfl,rfl⟩
  ·rw[if_neg h,List.find?_cons_of_neg h]
   rcases firstIdx_find p t (k+1)with⟨h1,h2⟩ | ⟨j,u,h1,h2,h3⟩
   ·exact .inl ⟨h1,h2⟩
   ·exact .inr ⟨j+1,u,by rw[h1];omega,h2,h3⟩
def decR (o:Option ByteArray):Value:=match o with
 | some s=>.tuple #[.string s,.bool true]
 | none=>.tuple #[.string ⟨#[]⟩,.bool false]
set_option maxHeartbeats 4000000 in
set_option maxRecDepth 100000 in
theorem decided_any {w:World}{kv x:Value}{ks:List ByteArray}{l:List VoteP}(hr:SS w kv ks)(hl:VS w x l)(num stp:Int)(hk1000:ks.length≤1000)(he:Env w)(hg:3 < w.heap.size) :
  Calls Tryz.prog 44 #[.agg #[kv],.agg #[.int .i64 num,.int .i64 stp],x] w fun e w'=>e=.returned (decR (decidedV ks num stp l))∧Below w.heap.size w w':=by
 obtain⟨ka,kcap,rfl,_,_,_⟩:=hr.opened
 obtain⟨a,cap,rfl,_,_,_⟩:=hl.opened
 obtain⟨W2,hW2⟩:∃ W2,W2=(w.alloc (.cells #[.slice ka ks.length kcap] 31)).alloc (.cells #[.int .i64 num,.int .i64 stp] 25):=⟨_,rfl⟩
 have HP2:Hid (PrAt w (.slice ka ks.length kcap) num stp (.slice none 0 0) [] W2):=zh ⟨by rw[hW2];exact(br0.alloc (Nat.le_refl _) _).alloc (by simp) _,by rw[hW2];exact at_past w _ _,by rw[hW2];exact at_second w _ _,OwnE.nil _ _ _ _⟩
 have HTA:=zh (tallies_any (hr.below HP2.out.1) (hl.below HP2.out.1) num stp (he.below HP2.out.1 hg) (Nat.lt_of_lt_of_le hg HP2.out.1.size))
 have HRes:Hid (decidedV ks num stp l=((tallyV ks num stp l).find? fun t=>decide (enoughC ks≤t.2)).map (·.1)):=zh rfl
 generalize tallyV ks num stp l=T at *
 generalize decidedV ks num stp l=R at *
 have HW2:=zh hW2
 clear hr hl he hg hW2
 obtain⟨c0,c1,c2⟩:=HP2.out.cells
 go_enter Tryz.func44,Tryz.ntmps44
 go_upto_region 1 with fail
 rw[← HW2.out]
 go_wp2_with fail
 refine HTA.out.mono ?_
 rintro e w3 ⟨tv,rfl,htv,hb3⟩
 have HP3:=zh (HP2.out.far hb3)
 have HTV:=zh htv
 have HFI:=zh (firstIdx_find (fun t:ByteArray × Nat=>decide (enoughC ks≤t.2)) T 0)
 have HIX:=indexT_any w.heap.size (fun t:ByteArray × Nat=>decide (enoughC ks≤t.2)) htv (fun W y hW=>decfn_any ka ks.length kcap (enoughC ks) w.heap.size y.1 y.2 W hk1000 rfl ((hW.block _ (ltA HP3.out.2.1)).trans HP3.out.2.1))
 obtain⟨idx,hidx⟩:∃ idx,idx=firstIdx (fun t:ByteArray × Nat=>decide (enoughC ks≤t.2)) T 0:=⟨_,rfl⟩
 rw[← hidx]at HIX HFI
 have HII:=zh HIX
 obtain⟨ta,tc,rfl,tl1,tl2,_⟩:=htv.opened
 clear hidx HIX hb3 c0 c1 c2 htv
 rcases HFI.out with⟨hi1,hf1⟩ | ⟨j,u,hi1,hj1,hf1⟩
 ·subst hi1
  have HR':Hid (R=none):=zh (by rw[HRes.out,hf1];rfl)
  clear hf1 HFI HRes
  go_wp2_with (go_at_call 86;refine HII.out.mono ?_;rintro e w4 ⟨rfl,hb4⟩)
  go_ret2
  refine⟨?_,q_next HP3.out.1 hb4⟩
  rw[HR'.out]
  rfl
 ·rw[Int.zero_add]at hi1
  subst hi1
  have HR':Hid (R=some u.1):=zh (by rw[HRes.out,hf1];rfl)
  obtain⟨a2,c2,e2,_,_,h3⟩:=HTV.out.opened
  obtain⟨b',o',hbo,hb',d0,d1⟩:=h3 j u hj1
  have he1:ta=some ⟨b',o',none⟩:=by
   injection e2 with e3 _ _
   rw[e3]
   exact hbo
  subst he1
  have hjn:=(List.getElem?_eq_some_iff.1 hj1).1
  generalize T.length=n at *
  obtain⟨us,ut⟩:=u
  simp only at d0 HR'
  have D0:=zh (fun W (hW:Below w3.heap.size w3 W)=>cell_keepB hW hb' d0)
  have hj0:(0:Int)≤(j:Int):=by omega
  have hjn':(j:Int) < (n:Int):=by omega
  have hd:decide ((j:Int) < 0)=false:=decide_eq_false (by omega)
  clear hf1 HFI HRes e2 h3 hbo d0 d1 hj1
  go_wp2_with (go_at_call 86;refine HII.out.mono ?_;rintro e w4 ⟨rfl,hb4⟩;have e0:=D0.out w4 hb4)
  go_ret2
  refine⟨?_,q_next HP3.out.1 hb4⟩
  rw[HR'.out]
  rfl
end Go.Proofs.YtggdcnjaofflbaaGreatDoor
