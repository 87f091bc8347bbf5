/- several texts in one: UR2 -/
import Derived.Deep.RegionHeld3
import Derived.Deep.RegionLaw
import Derived.Test.YtbmphakfgoompaaGreatOU
import Derived.Test.YtbmphakfgoompaaGreatO4
set_option linter.unusedVariables false
set_option linter.unusedSimpArgs false
set_option maxRecDepth 100000
set_option maxHeartbeats 16000000
namespace Go.Proofs.YtbmphakfgoompaaGreat
open Go.RowKit
attribute [local go_sem] Oper.semAt_some
def StR (w3:World) (B:Nat) (E:TypeId) (g n c:Nat) (iv:Value) (wr:World):Prop:=∃k:Nat,k≤n∧iv= .int .i64 (k:Nat)∧Any 1 B E wr (some ⟨g,0,none⟩) n c∧w3.grownBy wr (some g)
theorem kKm {c:Code}(hcd: Tryz.f3.body.bind (kMc 34)=some c)(Q:Exit→Act→World→Prop)(V W:World)(b9 b13:Nat)(xa0:Option Addr)(xn0 xc0:Nat)(xa1:Option Addr)(xn1 xc1:Nat)(xa2:Option Addr)(xn2 xc2:Nat)(xa3:Option Addr)(xn3 xc3:Nat)(xa4:Option Addr)(xn4 xc4:Nat)(xa5:Option Addr)(xn5 xc5:Nat)(xa6:Option Addr)(xn6 xc6:Nat)(xa7:Option Addr)(xn7 xc7:Nat)(sa0:Option Addr)(sn0 sc0:Nat)(sa1:Option Addr)(sn1 sc1:Nat)(sa2:Option Addr)(sn2 sc2:Nat)(sa3:Option Addr)(sn3 sc3:Nat)(sa4:Option Addr)(sn4 sc4:Nat)(sa5:Option Addr)(sn5 sc5:Nat)(sa6:Option Addr)(sn6 sc6:Nat)(sa7:Option Addr)(sn7 sc7:Nat)(sa8:Option Addr)(sn8 sc8:Nat)(sa9:Option Addr)(sn9 sc9:Nat)(sa10:Option Addr)(sn10 sc10:Nat)(sa11:Option Addr)(sn11 sc11:Nat)(F:Nat→Nat→Int)(M:Nat)(hM:M=17408)(k:Nat)(hk:k≤6)(hF:OvF k F)
  (hf:kBf V (.agg #[.slice xa0 xn0 xc0,.slice xa1 xn1 xc1,.slice xa2 xn2 xc2,.slice xa3 xn3 xc3,.slice xa4 xn4 xc4,.slice xa5 xn5 xc5,.slice xa6 xn6 xc6,.slice xa7 xn7 xc7]) F)(hVW:Below V.heap.size V W)(hb9:b9<V.heap.size)(h9:W.heap[b9]? =some (.cells #[.slice xa0 xn0 xc0,.slice xa1 xn1 xc1,.slice xa2 xn2 xc2,.slice xa3 xn3 xc3,.slice xa4 xn4 xc4,.slice xa5 xn5 xc5,.slice xa6 xn6 xc6,.slice xa7 xn7 xc7] 37 (0,0)))(hb13:V.heap.size≤b13)(h13:W.heap[b13]? =some (.cells #[.slice sa0 sn0 sc0,.slice sa1 sn1 sc1,.slice sa2 sn2 sc2,.slice sa3 sn3 sc3,.slice sa4 sn4 sc4,.slice sa5 sn5 sc5,.slice sa6 sn6 sc6,.slice sa7 sn7 sc7,.slice sa8 sn8 sc8,.slice sa9 sn9 sc9,.slice sa10 sn10 sc10,.slice sa11 sn11 sc11] 50 (0,0)))(hO:Ow4 V.heap.size W #[.slice sa0 sn0 sc0,.slice sa1 sn1 sc1,.slice sa2 sn2 sc2,.slice sa3 sn3 sc3,.slice sa4 sn4 sc4,.slice sa5 sn5 sc5,.slice sa6 sn6 sc6,.slice sa7 sn7 sc7,.slice sa8 sn8 sc8,.slice sa9 sn9 sc9,.slice sa10 sn10 sc10,.slice sa11 sn11 sc11] F M)
  (aa:Option Addr)(an ac:Nat)(zs:List Int)(hn:zs.length=an)(hnb:an≤maxLen)(hz:Ints .i32 V aa zs)(hzb:∀z∈zs,wf32 z)
  (hQ:∀(act:Act) (W':World),act.tmps[8]? =some (.bool true)→act.defers=[]→Below V.heap.size V W'→Q .ret act W')(hQP:∀x (a1 a2:Act) (w:World),a1.defers=a2.defers→Q (.panic x) a1 w→Q (.panic x) a2 w)(v0 v1 v2 v4 v5 v6 v7 v8 v10 v11 v12 v14 v15 v16 v17 v18 v19 v20 v21 v22 v23 v24 v25 v26 v27 v28 v29 v30 v31 v32 v33 v34 v35 v36 v37 v38 v39 v40 v41 v42 v43 v44 v45 v46 v47 v48 v49 v50 v51 v52 v53 v54 v55 v56 v57 v58 v59 v60 v61 v62 v63 v64 v65 v66 v67 v68 v69 v70 v71 v72 v73 v74 v75 v76 v77 v78 v79 v80 v81 v82 v83 v84 v85 v86 v87 v88 v89 v90 v91 v92 v93 v94 v95 v96 v97 v98 v99 v100 v101 v102 v103 v104 v105 v106 v107 v108 v109 v110 v111 v112 v113 v114 v115 v116 v117 v118 v119 v120 v121 v122 v123 v124 v125 v126 v127 v128 v129 v130 v131 v132 v133 v134 v135 v136 v137 v138 v139 v140 v141 v142 v143 v144 v145 v146 v147 v148 v149 v150 v151 v152 v153 v154 v155 v156 v157 v158 v159 v160 v161 v162 v163 v164 v165 v166 v167 v168 v169 v170 v171 v172 v173 v174 v175 v176 v177 v178 v179 v180 v181 v182 v183 v184 v185 v186 v187 v188 v189 v190 v191 v192 v193 v194 v195 v196 v197 v198 v199 v200 v201 v202 v203 v204 v205 v206 v207 v208 v209 v210 v211 v212:Value):
  c.wp Tryz.prog Q {tmps:= #[v0,v1,v2,.slice aa an ac,v4,v5,v6,v7,v8,.pointer (some ⟨b9,0,none⟩),v10,v11,v12,.pointer (some ⟨b13,0,none⟩),v14,v15,v16,v17,v18,v19,v20,v21,v22,v23,v24,v25,v26,v27,v28,v29,v30,v31,v32,v33,v34,v35,v36,v37,v38,v39,v40,v41,v42,v43,v44,v45,v46,v47,v48,v49,v50,v51,v52,v53,v54,v55,v56,v57,v58,v59,v60,v61,v62,v63,v64,v65,v66,v67,v68,v69,v70,v71,v72,v73,v74,v75,v76,v77,v78,v79,v80,v81,v82,v83,v84,v85,v86,v87,v88,v89,v90,v91,v92,v93,v94,v95,v96,v97,v98,v99,v100,v101,v102,v103,v104,v105,v106,v107,v108,v109,v110,v111,v112,v113,v114,v115,v116,v117,v118,v119,v120,v121,v122,v123,v124,v125,v126,v127,v128,v129,v130,v131,v132,v133,v134,v135,v136,v137,v138,v139,v140,v141,v142,v143,v144,v145,v146,v147,v148,v149,v150,v151,v152,v153,v154,v155,v156,v157,v158,v159,v160,v161,v162,v163,v164,v165,v166,v167,v168,v169,v170,v171,v172,v173,v174,v175,v176,v177,v178,v179,v180,v181,v182,v183,v184,v185,v186,v187,v188,v189,v190,v191,v192,v193,v194,v195,v196,v197,v198,v199,v200,v201,v202,v203,v204,v205,v206,v207,v208,v209,v210,v211,v212],defers:=[]} W:=by
 have h2: Tryz.f3.body.bind (kMc 34)=some _:=rfl;rw[h2]at hcd;have hcd2:_=c:=Option.some.inj hcd;subst hcd2;clear h2 hcd
 have HQ:=jH hQ;have HQP:=jH hQP;have HM:=jH hM;have HF:=jH hF;have Hf:=jH hf;have HVW:=jH hVW;have H9:=jH h9;have H13:=jH h13;have HO:=jH hO;have HZn:=jH hn;have HZi:=jH hz;have HZb:=jH hzb
 have Hb9:=jH hb9;have Hb13:=jH hb13
 clear hQ hQP hM hF hf hVW hb9 hb13 h9 h13 hO hn hz hzb;obtain⟨k1,hk1⟩:=kBd.exists (kKf F 4) 1114112;obtain⟨k2,hk2⟩:=kBd.exists (kBu (F 0) (F 1) (F 2) (F 3)) 1114112
 have HK1:=jH hk1;have HK2:=jH hk2
 have HNz:Hid ((nzR 1114112 (F 1)).length<64):=jH (HF.out.nz hk);clear hk1 hk2 hk;have HOv:Hid (Calls Tryz.prog 11 #[.agg #[.slice sa0 sn0 sc0,.slice sa1 sn1 sc1,.slice sa2 sn2 sc2,.slice sa3 sn3 sc3,.slice sa4 sn4 sc4,.slice sa5 sn5 sc5,.slice sa6 sn6 sc6,.slice sa7 sn7 sc7,.slice sa8 sn8 sc8,.slice sa9 sn9 sc9,.slice sa10 sn10 sc10,.slice sa11 sn11 sc11]] W fun e w'=>kKz W (ptS (mkF (F 0) M)) (ptS (mkF (F 1) M)) (ptS (mkF (F 2) M)) (ptS (mkF (F 3) M)) e w'):=jH (kSn HM.out HO.out);have y0:=jK W b13 0 _ _ (0,0) H13.out;have y1:=jK W b13 1 _ _ (0,0) H13.out;have y2:=jK W b13 2 _ _ (0,0) H13.out;have y3:=jK W b13 3 _ _ (0,0) H13.out;have y4:=jK W b13 4 _ _ (0,0) H13.out;have y5:=jK W b13 5 _ _ (0,0) H13.out;have y6:=jK W b13 6 _ _ (0,0) H13.out;have y7:=jK W b13 7 _ _ (0,0) H13.out;have y8:=jK W b13 8 _ _ (0,0) H13.out;have y9:=jK W b13 9 _ _ (0,0) H13.out;have y10:=jK W b13 10 _ _ (0,0) H13.out;have y11:=jK W b13 11 _ _ (0,0) H13.out;simp at y0 y1 y2 y3 y4 y5 y6 y7 y8 y9 y10 y11
 go_wp2_with fail
 refine HOv.out.mono ?_;intro e W1 hq;obtain⟨x,r,u,rfl⟩:=hq.shape;have HOq:=jH hq;have H9b:=jH ((hq.1.block b9 (jL H9.out)).trans H9.out);have H13b:=jH ((hq.1.block b13 (jL H13.out)).trans H13.out);have HV1:=jH (HVW.out.trans (hq.1.mono HVW.out.size));clear y0 y1 y2 y3 y4 y5 y6 y7 y8 y9 y10 y11;clear hq HOv;have HDo:=jH (kOz W1 (.agg #[.slice xa0 xn0 xc0,.slice xa1 xn1 xc1,.slice xa2 xn2 xc2,.slice xa3 xn3 xc3,.slice xa4 xn4 xc4,.slice xa5 xn5 xc5,.slice xa6 xn6 xc6,.slice xa7 xn7 xc7]) F (Hf.out.below HV1.out) k1 k2 HK1.out HK2.out (fun _=>HNz.out));have y0:=jK W1 b9 0 _ _ (0,0) H9b.out;have y1:=jK W1 b9 1 _ _ (0,0) H9b.out;have y2:=jK W1 b9 2 _ _ (0,0) H9b.out;have y3:=jK W1 b9 3 _ _ (0,0) H9b.out;have y4:=jK W1 b9 4 _ _ (0,0) H9b.out;have y5:=jK W1 b9 5 _ _ (0,0) H9b.out;have y6:=jK W1 b9 6 _ _ (0,0) H9b.out;have y7:=jK W1 b9 7 _ _ (0,0) H9b.out;simp at y0 y1 y2 y3 y4 y5 y6 y7
 go_wp2_with fail
 refine HDo.out.mono ?_;intro e W2 hd;obtain⟨hb,y,rfl,hok⟩:=kQy HM.out HK1.out HK2.out HOq.out hd;have HOk:=jH hok;have HW2:Hid (W.heap.size≤W2.heap.size):=jH (Nat.le_trans HOq.out.1.size hb.size);have H9c:=jH ((hb.block b9 (jL H9b.out)).trans H9b.out);have H13c:=jH ((hb.block b13 (jL H13b.out)).trans H13b.out);have HV2:=jH (HV1.out.trans (hb.mono HV1.out.size));have HO2:=jH (HO.out.below (HOq.out.1.trans (hb.mono HOq.out.1.size)));clear y0 y1 y2 y3 y4 y5 y6 y7;clear hd hok hb HDo HOq H9b H13b HV1 HNz HK1 HK2
 go_upto_region 36 with(fail)
 go_cut [188]from 174 to 188 (fun v W3=>v= .bool false∧Below W2.heap.size W2 W3)
 case first=>
  refine(wpIn_wide (n:=2)).1 ?_;refine kAj [] (fun w':World=>w'.heap[b13]? =some (.cells #[.slice sa0 sn0 sc0,.slice sa1 sn1 sc1,.slice sa2 sn2 sc2,.slice sa3 sn3 sc3,.slice sa4 sn4 sc4,.slice sa5 sn5 sc5,.slice sa6 sn6 sc6,.slice sa7 sn7 sc7,.slice sa8 sn8 sc8,.slice sa9 sn9 sc9,.slice sa10 sn10 sc10,.slice sa11 sn11 sc11] 50 (0,0))∧w'.heap[b9]? =some (.cells #[.slice xa0 xn0 xc0,.slice xa1 xn1 xc1,.slice xa2 xn2 xc2,.slice xa3 xn3 xc3,.slice xa4 xn4 xc4,.slice xa5 xn5 xc5,.slice xa6 xn6 xc6,.slice xa7 xn7 xc7] 37 (0,0))) (by kernel_rfl) ?_;have hd:Below W2.heap.size W2 W2.drew:=(Below.refl _ W2).drew;have HC3:=jH (And.intro ((hd.block b13 (jL H13c.out)).trans H13c.out) ((hd.block b9 (jL H9c.out)).trans H9c.out));have HVd:=jH (HV2.out.trans (hd.mono HV2.out.size));have HOd:=jH (HO2.out.below hd);have HBd:Hid (Below W2.heap.size W2 W2.drew):=jH hd;have HPk:=jH (kGn W2.drew (.agg #[.slice xa0 xn0 xc0,.slice xa1 xn1 xc1,.slice xa2 xn2 xc2,.slice xa3 xn3 xc3,.slice xa4 xn4 xc4,.slice xa5 xn5 xc5,.slice xa6 xn6 xc6,.slice xa7 xn7 xc7]) F (Hf.out.below HVd.out) M HM.out HF.out.c HF.out.i)
  have hrr:(r==r)=true:=by simp
  have huu:(u==u)=true:=by simp
  clear hd;refine' kAe (i:=0) (v:= .int .i32 r) [] (by kernel_rfl) rfl (by rfl) (by kernel_rfl) (fun _ _ _ h=>HQP.out _ _ _ _ (by rfl) h) (by rfl) ?h0 HC3.out ?k0
  case h0=>
   intro w' c0
   go_simp
   try with_reducible rfl
  simp only[jA,jB,jC,Act.put,jD,jE,jF];refine' kAe (i:=1) (v:= .int .i32 r) [] (by kernel_rfl) rfl (by rfl) (by kernel_rfl) (fun _ _ _ h=>HQP.out _ _ _ _ (by rfl) h) (by rfl) ?h1 HC3.out ?k1
  case h1=>
   intro w' c0
   go_simp
   try with_reducible rfl
  simp only[jA,jB,jC,Act.put,jD,jE,jF];refine' kAe (i:=2) (v:= .bool false) [] (by kernel_rfl) rfl (by rfl) (by kernel_rfl) (fun _ _ _ h=>HQP.out _ _ _ _ (by rfl) h) (by rfl) ?h2 HC3.out ?k2
  case h2=>
   intro w' c0
   go_simp
   try with_reducible rfl
  simp only[jA,jB,jC,Act.put,jD,jE,jF];refine' kAe (i:=3) (v:= .bool false) [] (by kernel_rfl) rfl (by rfl) (by kernel_rfl) (fun _ _ _ h=>HQP.out _ _ _ _ (by rfl) h) (by rfl) ?h3 HC3.out ?k3
  case h3=>
   intro w' c0
   go_simp
   try with_reducible rfl
  simp only[jA,jB,jC,Act.put,jD,jE,jF];refine' kAe (i:=4) (v:= .int .i64 u) [] (by kernel_rfl) rfl (by rfl) (by kernel_rfl) (fun _ _ _ h=>HQP.out _ _ _ _ (by rfl) h) (by rfl) ?h4 HC3.out ?k4
  case h4=>
   intro w' c0
   go_simp
   try with_reducible rfl
  simp only[jA,jB,jC,Act.put,jD,jE,jF];refine' kAe (i:=5) (v:= .int .i64 u) [] (by kernel_rfl) rfl (by rfl) (by kernel_rfl) (fun _ _ _ h=>HQP.out _ _ _ _ (by rfl) h) (by rfl) ?h5 HC3.out ?k5
  case h5=>
   intro w' c0
   go_simp
   try with_reducible rfl
  simp only[jA,jB,jC,Act.put,jD,jE,jF];refine' kAe (i:=6) (v:= .bool false) [] (by kernel_rfl) rfl (by rfl) (by kernel_rfl) (fun _ _ _ h=>HQP.out _ _ _ _ (by rfl) h) (by rfl) ?h6 HC3.out ?k6
  case h6=>
   intro w' c0
   go_simp
   try with_reducible rfl
  simp only[jA,jB,jC,Act.put,jD,jE,jF];refine' kAe (i:=7) (v:= .bool false) [] (by kernel_rfl) rfl (by rfl) (by kernel_rfl) (fun _ _ _ h=>HQP.out _ _ _ _ (by rfl) h) (by rfl) ?h7 HC3.out ?k7
  case h7=>
   intro w' c0
   go_simp
   try with_reducible rfl
  simp only[jA,jB,jC,Act.put,jD,jE,jF];refine' kAe (i:=8) (v:= .bool false) [] (by kernel_rfl) rfl (by rfl) (by kernel_rfl) (fun _ _ _ h=>HQP.out _ _ _ _ (by rfl) h) (by rfl) ?h8 HC3.out ?k8
  case h8=>
   intro w' c0
   go_simp
   try with_reducible rfl
  simp only[jA,jB,jC,Act.put,jD,jE,jF];refine' kAe (i:=9) (v:= .agg #[.slice sa0 sn0 sc0,.slice sa1 sn1 sc1,.slice sa2 sn2 sc2,.slice sa3 sn3 sc3,.slice sa4 sn4 sc4,.slice sa5 sn5 sc5,.slice sa6 sn6 sc6,.slice sa7 sn7 sc7,.slice sa8 sn8 sc8,.slice sa9 sn9 sc9,.slice sa10 sn10 sc10,.slice sa11 sn11 sc11]) [] (by kernel_rfl) rfl (by rfl) (by kernel_rfl) (fun _ _ _ h=>HQP.out _ _ _ _ (by rfl) h) (by rfl) ?h9 HC3.out ?k9
  case h9=>
   intro w' c0;have q0:=jK w' b13 0 _ _ (0,0) c0.1;have q1:=jK w' b13 1 _ _ (0,0) c0.1;have q2:=jK w' b13 2 _ _ (0,0) c0.1;have q3:=jK w' b13 3 _ _ (0,0) c0.1;have q4:=jK w' b13 4 _ _ (0,0) c0.1;have q5:=jK w' b13 5 _ _ (0,0) c0.1;have q6:=jK w' b13 6 _ _ (0,0) c0.1;have q7:=jK w' b13 7 _ _ (0,0) c0.1;have q8:=jK w' b13 8 _ _ (0,0) c0.1;have q9:=jK w' b13 9 _ _ (0,0) c0.1;have q10:=jK w' b13 10 _ _ (0,0) c0.1;have q11:=jK w' b13 11 _ _ (0,0) c0.1;simp only[jG,jI,jJ]at q0 q1 q2 q3 q4 q5 q6 q7 q8 q9 q10 q11
   go_simp
   try with_reducible rfl
  simp only[jA,jB,jC,Act.put,jD,jE,jF];refine' kAe (i:=10) (v:= .agg #[.slice xa0 xn0 xc0,.slice xa1 xn1 xc1,.slice xa2 xn2 xc2,.slice xa3 xn3 xc3,.slice xa4 xn4 xc4,.slice xa5 xn5 xc5,.slice xa6 xn6 xc6,.slice xa7 xn7 xc7]) [] (by kernel_rfl) rfl (by rfl) (by kernel_rfl) (fun _ _ _ h=>HQP.out _ _ _ _ (by rfl) h) (by rfl) ?h10 HC3.out ?k10
  case h10=>
   intro w' c0;have q0:=jK w' b9 0 _ _ (0,0) c0.2;have q1:=jK w' b9 1 _ _ (0,0) c0.2;have q2:=jK w' b9 2 _ _ (0,0) c0.2;have q3:=jK w' b9 3 _ _ (0,0) c0.2;have q4:=jK w' b9 4 _ _ (0,0) c0.2;have q5:=jK w' b9 5 _ _ (0,0) c0.2;have q6:=jK w' b9 6 _ _ (0,0) c0.2;have q7:=jK w' b9 7 _ _ (0,0) c0.2;simp only[jG,jI,jJ]at q0 q1 q2 q3 q4 q5 q6 q7
   go_simp
   try with_reducible rfl
  simp only[jA,jB,jC,Act.put,jD,jE,jF];refine kAl (i:=11) (by kernel_rfl) ?_;refine kBa (i:=11) rfl (by rfl) (by rfl) (fun _ _=>trivial) (kBb 10 (.tmp 184) _ rfl (.agg #[.slice xa0 xn0 xc0,.slice xa1 xn1 xc1,.slice xa2 xn2 xc2,.slice xa3 xn3 xc3,.slice xa4 xn4 xc4,.slice xa5 xn5 xc5,.slice xa6 xn6 xc6,.slice xa7 xn7 xc7]) rfl (enters_of Tryz.func10 (by kernel_rfl) rfl)) (fun h=>by cases h) ?_;refine callsIn_wide.2 ?_;refine HPk.out.mono ?_;rintro e z1 ⟨tt,rfl,hot,hb⟩;have HSm:=jH (kOg HM.out (HOd.out.below hb) hot);have HC3b:=jH (And.intro ((hb.block b13 (jL HC3.out.1)).trans HC3.out.1) ((hb.block b9 (jL HC3.out.2)).trans HC3.out.2));have HBz:=jH (HBd.out.trans (hb.mono HBd.out.size));clear hot hb HPk;refine⟨_,rfl,fun _=>HC3b.out,?_⟩;simp only[jA,jB,jC,Act.put,jD,jE,jF];refine kAl (i:=12) (by kernel_rfl) ?_;refine kBa (i:=12) rfl (by rfl) (by rfl) (fun _ _=>trivial) (kDv 13 (.tmp 183) (.tmp 185) _ rfl (.agg #[.slice sa0 sn0 sc0,.slice sa1 sn1 sc1,.slice sa2 sn2 sc2,.slice sa3 sn3 sc3,.slice sa4 sn4 sc4,.slice sa5 sn5 sc5,.slice sa6 sn6 sc6,.slice sa7 sn7 sc7,.slice sa8 sn8 sc8,.slice sa9 sn9 sc9,.slice sa10 sn10 sc10,.slice sa11 sn11 sc11]) (.agg tt) rfl rfl (enters_of Tryz.func13 (by kernel_rfl) rfl)) (fun h=>by cases h) ?_;refine callsIn_wide.2 ?_;refine HSm.out.mono ?_;rintro e z2 ⟨rfl,hb⟩;have HC3c:=jH (And.intro ((hb.block b13 (jL HC3b.out.1)).trans HC3b.out.1) ((hb.block b9 (jL HC3b.out.2)).trans HC3b.out.2));have HBy:=jH (HBz.out.trans (hb.mono HBz.out.size));clear hb HSm;refine⟨_,rfl,fun _=>HC3c.out,?_⟩;simp only[jA,jB,jC,Act.put,jD,jE,jF];refine kAl (i:=13) (by kernel_rfl) ?_;refine kB7 (i:=13) (v:= .bool false) (w':=z2) rfl (by rfl) (fun _ _=>trivial) (by rfl) (by go_simp;try with_reducible rfl) (fun _=>HC3c.out) ?_;simp only[jA,jB,jC,Act.put,jD,jE,jF];refine kAl (i:=14) (by kernel_rfl) ?_;refine kB7 (i:=14) (v:= .bool false) (w':=z2) rfl (by rfl) (fun _ _=>trivial) (by rfl) (by go_simp;try with_reducible rfl) (fun _=>HC3c.out) ?_;simp only[jA,jB,jC,Act.put,jD,jE,jF];refine⟨by kernel_rfl,?_⟩;go_wp2
  go_meet
  case rel=>exact⟨rfl,HBy.out⟩
 case rest=>
 obtain⟨rfl,hb⟩:=hcut
 obtain⟨W3,rfl⟩:∃W3,W3=wc:=⟨_,rfl⟩
 have H13d:=jH ((hb.block b13 (jL H13c.out)).trans H13c.out);have HV3:=jH (HV2.out.trans (hb.mono HV2.out.size));have HO3:=jH (HO2.out.below hb);have HB3:=jH hb;clear hb H9c H13c HV2 HO2
 have hgg:∃gl gt,sn2≤1114112∧sa2=some ⟨gl,0,none⟩∧sa3=some ⟨gt,0,none⟩∧0<sn3∧Any 1 V.heap.size 22 W3 (some ⟨gl,0,none⟩) sn2 sc2∧Any 1 V.heap.size 29 W3 (some ⟨gt,0,none⟩) sn3 sc3∧gl≠gt∧(V.heap.size≤gl∧gl<W.heap.size)∧(V.heap.size≤gt∧gt<W.heap.size):=by
  have hof:∀X:World,Ow4 V.heap.size X #[.slice sa0 sn0 sc0,.slice sa1 sn1 sc1,.slice sa2 sn2 sc2,.slice sa3 sn3 sc3,.slice sa4 sn4 sc4,.slice sa5 sn5 sc5,.slice sa6 sn6 sc6,.slice sa7 sn7 sc7,.slice sa8 sn8 sc8,.slice sa9 sn9 sc9,.slice sa10 sn10 sc10,.slice sa11 sn11 sc11] F M→Any 1 V.heap.size 22 X sa2 sn2 sc2∧Any 1 V.heap.size 29 X sa3 sn3 sc3∧0<sn2∧0<sn3∧sn2≤1114112:=by
   intro X hX;obtain⟨s0,s1,s2,s3,s4,s5,s6,s7,s8,s9,s10,s11,e,⟨p1,p2,p3,p4,p5,p6,e1,e2,e3,o1,o2,o3⟩,⟨q1,q2,q3,q4,q5,q6,f1,f2,f3,r1,r2,r3⟩, -, -⟩:=hX;simp only[Array.mk.injEq,List.cons.injEq,and_true]at e;obtain⟨rfl,rfl,rfl,rfl, -⟩:=e;simp only[Value.slice.injEq]at e3 f1;obtain⟨rfl,rfl,rfl⟩:=e3;obtain⟨rfl,rfl,rfl⟩:=f1;have:=(kKk (made8 (F 0) M HM.out).trie).2;have h9:=(made8 (F 0) M HM.out).trie.lowL;exact⟨⟨_,o3⟩,⟨_,r1⟩,by omega,by omega,by omega⟩
  obtain⟨a1,a2,l1,l2,l3⟩:=hof W3 HO3.out;obtain⟨b1,b2, -, -⟩:=hof W HO.out;obtain⟨gl,e1,hl1, -⟩:=b1.at l1;obtain⟨gt,e2,ht1, -⟩:=b2.at l2;subst e1;subst e2;obtain⟨_,e1, -,hl2⟩:=b1.at l1;obtain⟨_,e2, -,ht2⟩:=b2.at l2;simp only[Option.some.injEq,Addr.mk.injEq,and_true]at e1 e2;subst e1;subst e2;refine⟨gl,gt,l3,rfl,rfl,l2,a1,a2,fun e=> ?_,⟨hl1,hl2⟩,⟨ht1,ht2⟩⟩;subst e;obtain⟨x1,y1⟩:=a1.ty;obtain⟨x2,y2⟩:=a2.ty;rw[y1]at y2;simp at y2
 obtain⟨gl,gt,hs2,rfl,rfl,hn3,ha2,ha3,hne,hgl,hgt⟩:=hgg
 have HA2:=jH ha2;have HA3:=jH ha3;have HNe:=jH hne;have HGl:=jH hgl;have HGt:=jH hgt
 clear ha2 ha3 hne hgl hgt HO3;go_wp2
 go_loopw [23] (StR W3 V.heap.size 22 gl sn2 sc2) (fun i _=>sn2 - (intOf i).toNat)
 case atStart=>exact⟨0,Nat.zero_le _,rfl,HA2.out,World.grownBy.refl _ _⟩
 case round=>
  obtain⟨j,hj,rfl,hany,hgr⟩:=hrel
  have HAn:=jH hany;have HG:=jH hgr
  clear hany hgr;have Hwr:Hid (Below V.heap.size V wr):=jH (HV3.out.trans (kAv HG.out (fun x e=>by cases e;exact HGl.out.1) HV3.out.size));have hr13:=(HG.out.block b13 (jL H13d.out) (fun e=>by cases e;obtain⟨u1,z1⟩:=HA2.out.ty;rw[H13d.out]at z1;simp at z1)).trans H13d.out;have y2:=jK wr b13 2 _ _ (0,0) hr13;have y3:=jK wr b13 3 _ _ (0,0) hr13;simp at y2 y3
  have H13r:=jH hr13;clear hr13
  by_cases hlt:j<sn2
  ·have hji:(j:Int)<(sn2:Int):=by omega
   obtain⟨p0,p1⟩:=(Any.there HAn.out j hlt) 0 (by omega);obtain⟨v0,p0⟩:=Option.isSome_iff_exists.1 p0;simp only[Nat.mul_one,Nat.add_zero]at p0 p1;have HA4:Hid (Any 1 V.heap.size 22 (wr.setCell ⟨gl,j,none⟩ (.int .u8 77)) (some ⟨gl,0,none⟩) sn2 sc2):=jH (by obtain⟨xs,h⟩:=HAn.out;exact⟨_,(World.ownsRow.stored h j _).1⟩);have HG4:=jH (kA4 HG.out (kAd wr gl j (.int .u8 77)));go_wp2
   go_roundw
   case rel=>exact⟨j+1,hlt,by go_num,HA4.out,HG4.out⟩
   case measure=>simp[intOf];omega
  ·obtain rfl:sn2=j:=by omega
   have hji:¬(sn2:Int)<(sn2:Int):=by omega
   have HA5:Hid (Any 1 V.heap.size 29 wr (some ⟨gt,0,none⟩) sn3 sc3):=jH (by obtain⟨xs,h⟩:=HA3.out;exact⟨xs,World.ownsRow.kept h HG.out (.inr (fun e=>HNe.out (by simpa [Value.ownBlock]using e.symm)))⟩);obtain⟨p0,p1⟩:=(Any.there HA5.out 0 hn3) 0 (by omega);obtain⟨v0,p0⟩:=Option.isSome_iff_exists.1 p0;simp only[Nat.zero_mul,Nat.add_zero]at p0 p1
   have hn3i:(0:Int)<(sn3:Int):=by omega
   have HW5:Hid (Below V.heap.size V (wr.setCell ⟨gt,0,none⟩ (.int .u16 9))):=jH (Hwr.out.setCell (p:=⟨gt,0,none⟩) HGt.out.1 _);have HKz:Hid (∀g,W.heap.size≤g→g<W2.heap.size→(wr.setCell ⟨gt,0,none⟩ (.int .u16 9)).heap[g]? =W2.heap[g]?):=jH (fun g h1 h2=>((jQ wr ⟨gt,0,none⟩ g _ (by have:=HGt.out.2;show g≠gt;omega)).trans (HG.out.block g (Nat.lt_of_lt_of_le h2 HB3.out.size) (fun e=>by cases e;have:=HGl.out.2;omega))).trans (HB3.out.block g h2));have HWl:=jH (HOk.out.walk HKz.out (Hf.out.below HW5.out) M HM.out aa an ac zs HZn.out hnb (HZi.out.below HW5.out jR) HZb.out);clear HKz HOk HA5 HAn HG
   go_wp2_with fail
   refine HWl.out.mono ?_;rintro e w30 ⟨rfl,hb⟩;have HB30:=jH (HW5.out.trans (hb.mono HW5.out.size));clear hb HWl
   go_wp2_with fail
   refine(kDa w30).mono ?_;rintro e w31 ⟨rfl,hb⟩;have HB31:=jH (HB30.out.trans (hb.mono HB30.out.size));clear hb;go_wp2
   exact HQ.out _ _ rfl rfl HB31.out
end Go.Proofs.YtbmphakfgoompaaGreat
