/- several texts in one: WI -/
import Derived.Test.YtabbabkmojaoaaaNG
import Derived.Test.YtabbabkmojaoaaaNH
set_option linter.unusedVariables false
set_option linter.unusedSimpArgs false
set_option maxRecDepth 100000
set_option maxHeartbeats 16000000
namespace Go.Proofs.Ytabbabkmojaoaaa
open Go.RowKit
attribute [local go_sem] Oper.semAt_some
def kH9 (w:World) (fv:Value) (L:List (Int×Int)):Prop:=
 ∃aT cT aV cV,fv= .agg #[.slice aT L.length cT,.slice aV L.length cV]∧Ints .i32 w aT (L.map (·.1))∧Ints .i64 w aV (L.map (·.2))∧(aT=none→cT=0)∧(aV=none→cV=0)
theorem kH9.below {w w':World}{fv:Value}{L:List (Int×Int)}(h:kH9 w fv L)(hb:Below w.heap.size w w'):kH9 w' fv L:=by
 obtain⟨aT,cT,aV,cV,h1,h2,h3,h4,h5⟩:=h;exact⟨aT,cT,aV,cV,h1,h2.below hb jR,h3.below hb jR,h4,h5⟩
theorem kH9.nil (w:World):kH9 w (.agg #[.slice none 0 0,.slice none 0 0]) []:=⟨none,0,none,0,rfl,Ints.nil _ _ _,Ints.nil _ _ _,fun _=>rfl,fun _=>rfl⟩
def kF0 (L:List (Int×Int)) (to v:Int):List (Int×Int):=match L.getLast? with
 | some x=>if x.2=v then L.dropLast++[(to,v)]else L++[(to,v)]
 | none=>[(to,v)]
theorem Ints.src {k:IntKind}{w:World}{a:Option Addr}{zs:List Int}(h:Ints k w a zs):∀j v,(ivs k zs)[j]? =Option.some v→∃ad,a=Option.some ad∧w.cell? (ad.add j)=Option.some v:=by
 intro j v hv;unfold ivs at hv;rw[List.getElem?_map]at hv
 cases hz:zs[j]? with
 | none=>rw[hz]at hv;cases hv
 | some z=>
  rw[hz]at hv;cases hv;obtain⟨hj,hz⟩:=List.getElem?_eq_some_iff.1 hz;obtain⟨b,o,rfl,hc⟩:=h j hj;exact⟨_,rfl,by rw[Addr.add_lit,hc,hz]⟩
theorem kIi {P:Program}{o:Oper}{a:Act}{w:World}(t:TypeId)(x:Operand)(ho:o.op= .buildSlice t 1 #[(0,x)])(v:Value)(hx:a.eval x=v)(E:TypeId)(hr:∀w,(Instr.buildSlice t 1 #[(0,v)]).run P w= .ok (.slice (some ⟨w.heap.size,0,none⟩) 1 1) (w.alloc (.cells #[v] E))):
  (execOp a.eval o).run P w= .ok (.value (.slice (some ⟨w.heap.size,0,none⟩) 1 1)) (w.alloc (.cells #[v] E)):=by
 subst hx;unfold execOp;simp only[ho,List.map_toArray,List.map_cons,List.map_nil,Sem.run_bind,hr,Result.andThen_ok,Sem.run_pure]
theorem kKl (w:World)(fv:Value)(L:List (Int×Int))(to v:Int)(hL:L.length≤1114112)(hf:kH9 w fv L):
  Calls Try.prog 77 #[fv,.int .i32 to,.int .i64 v] w fun e w'=>∃fv',e= .returned fv'∧kH9 w' fv' (kF0 L to v)∧Below w.heap.size w w':=by
 obtain⟨aT,cT,aV,cV,rfl,hT,hV,hnT,hnV⟩:=hf
 obtain⟨n,hn⟩:∃n,n=L.length:=⟨_,rfl⟩
 rw[←hn]
 have HT:=jH hT;have HV:=jH hV;have HnT:=jH hnT;have HnV:=jH hnV;have HN:=jH hn
 clear hT hV hnT hnV hn
 have HLb:=jH hL;clear hL
 go_enter Try.func77,Try.ntmps77
 go_upto_region 1 with(fail)
 obtain⟨b0,hb0⟩:∃b0,b0=w.heap.size:=⟨_,rfl⟩
 have HW:Hid (Below w.heap.size w ((w.alloc (.cells #[.slice aT n cT,.slice aV n cV] 63)).alloc (.cells #[.slice none 0 0,.slice none 0 0] 63))∧
   ((w.alloc (.cells #[.slice aT n cT,.slice aV n cV] 63)).alloc (.cells #[.slice none 0 0,.slice none 0 0] 63)).heap[b0]? =some (.cells #[.slice aT n cT,.slice aV n cV] 63 (0,0))∧
   ((w.alloc (.cells #[.slice aT n cT,.slice aV n cV] 63)).alloc (.cells #[.slice none 0 0,.slice none 0 0] 63)).heap[b0+1]? =some (.cells #[.slice none 0 0,.slice none 0 0] 63 (0,0))∧
   ((w.alloc (.cells #[.slice aT n cT,.slice aV n cV] 63)).alloc (.cells #[.slice none 0 0,.slice none 0 0] 63)).heap.size=b0+2):=jH (by
  rw[hb0]
  refine⟨((Below.refl _ w).alloc jR _).alloc (by simp) _,?_,?_,by simp⟩
  ·rw[Below.heap_alloc _ _ _ (by simp)];exact jN w _
  ·have:=jN (w.alloc (.cells #[.slice aT n cT,.slice aV n cV] 63)) (.cells #[.slice none 0 0,.slice none 0 0] 63)
   simpa using this)
 rw[←hb0];generalize ((w.alloc (.cells #[.slice aT n cT,.slice aV n cV] 63)).alloc (.cells #[.slice none 0 0,.slice none 0 0] 63))=w2 at*
 have HBz:=jH hb0;clear hb0
 have HT2:=jH (HT.out.below HW.out.1 jR);have HV2:=jH (HV.out.below HW.out.1 jR)
 have q0:=jK w2 b0 0 _ _ (0,0) HW.out.2.1;have q1:=jK w2 b0 1 _ _ (0,0) HW.out.2.1;have p0:=jK w2 (b0+1) 0 _ _ (0,0) HW.out.2.2.1;have p1:=jK w2 (b0+1) 1 _ _ (0,0) HW.out.2.2.1;have fz:=jO w2 (b0+1) 0 _ _ HW.out.2.2.1;simp at q0 q1 p0 p1
 have hcs:n=0∨(∃m x,n=m+1∧L.getLast? =some x∧(L.map (·.2))[m]? =some x.2∧x.2=v)∨(∃m x,n=m+1∧L.getLast? =some x∧(L.map (·.2))[m]? =some x.2∧x.2≠v):=by
  rw[HN.out]
  cases hl:L.getLast? with
  | none=>exact .inl (by rw[List.getLast?_eq_none_iff.1 hl];rfl)
  | some x=>
   have hne:L≠[]:=fun e=>by rw[e]at hl;cases hl
   have hp:0<L.length:=List.length_pos_iff.2 hne
   have hg:(L.map (·.2))[L.length - 1]? =some x.2:=by
    rw[List.getLast?_eq_getElem?]at hl
    rw[List.getElem?_map,hl];rfl
   by_cases hv:x.2=v
   ·exact .inr (.inl ⟨L.length - 1,x,by omega,rfl,hg,hv⟩)
   ·exact .inr (.inr ⟨L.length - 1,x,by omega,rfl,hg,hv⟩)
 rcases hcs with h0 | ⟨m,x,hm,hla,hg,hv⟩ | ⟨m,x,hm,hla,hg,hv⟩
 rotate_left
 ·have hni:(0:Int)<(n:Int):=by omega
  have hnm:(n:Int) - 1=(m:Int):=by omega
  have HWl:Hid (kF0 L to v=L.dropLast++[(to,v)]):=jH (by unfold kF0;rw[hla];simp only;rw[if_pos hv])
  have HLs:Hid ((L.map (·.1)).set m to=(L.dropLast++[(to,v)]).map (·.1)∧L.map (·.2)=(L.dropLast++[(to,v)]).map (·.2)∧(L.dropLast++[(to,v)]).length=n):=jH (by
   have hd:L=L.dropLast++[x]:=by
    obtain⟨hne,e⟩:=List.getLast?_eq_some_iff.1 hla
    rw[e];simp
   have hdl:L.dropLast.length=m:=by rw[List.length_dropLast,←HN.out];omega
   have hLm:L.length=m+1:=by rw[←HN.out];exact hm
   refine⟨?_,?_,by rw[List.length_append,hdl,hm];rfl⟩
   ·conv=>lhs;rw[hd]
    rw[List.map_append,List.set_append_right _ _ (by rw[List.length_map,hdl];exact Nat.le_refl _)];rw[List.length_map,hdl,Nat.sub_self,List.map_append]
    rfl
   ·conv=>lhs;rw[hd]
    simp[hv])
  obtain⟨hml,hmx⟩:=List.getElem?_eq_some_iff.1 hg;obtain⟨bV,oV,haV⟩:=HV2.out.some (by omega);subst haV;have r0:=HV2.out.get m hml;rw[hmx]at r0
  have hve:(x.2==v)=true:=by rw[hv];exact beq_self_eq_true v
  have hw64:wrap64 (m:Int)=(m:Int):=by have:=HLb.out;have:=HN.out;unfold wrap64;omega
  have hmn:(m:Int)<(n:Int):=by omega
  have HM:=jH hm;clear hm hla hg hmx hv hml
  go_upto_region 3 with(fail)
  generalize (some (⟨bV,oV,none⟩:Addr))=aV at*;clear r0 hve hni;refine(wpIn_wide (n:=2)).1 ?_;refine kAi [5,7] (fun w':World=>w'.cell? ⟨b0,0,none⟩=some (.slice aT n cT)∧w'.cell? ⟨b0,1,none⟩=some (.slice aV n cV)) (by kernel_rfl) ?_;have HCx:Hid ((fun w':World=>w'.cell? ⟨b0,0,none⟩=some (.slice aT n cT)∧w'.cell? ⟨b0,1,none⟩=some (.slice aV n cV)) w2.drew):=jH ⟨q0,q1⟩;have HD:Hid (Below w2.heap.size w2 w2.drew):=jH (Below.refl _ w2).drew
  have HT3:=jH (HT2.out.below HD.out jR);have HV3:=jH (HV2.out.below HD.out jR)
  have el32:kEs Try.prog 60 21 (.int .i32 0) 1 4:=⟨Try.underlying60,by kernel_rfl,by kernel_rfl,by decide⟩
  clear q0 q1;generalize w2.drew=w3 at*;refine' kAa (i:=0) (v:=_) [1,2,5,7] (by kernel_rfl) rfl (by kernel_rfl) (by kernel_rfl) (fun _ _ _ h=>h) (by rfl) (by rintro w' ⟨c0,c1⟩;go_simp;try with_reducible rfl) HCx.out ?_;simp only[jA,jB,jC,Act.put,jD,jE,jF];refine' kAa (i:=1) (v:=_) [2,5,7] (by kernel_rfl) rfl (by kernel_rfl) (by kernel_rfl) (fun _ _ _ h=>h) (by rfl) (by rintro w' ⟨c0,c1⟩;go_simp;try with_reducible rfl) HCx.out ?_;simp only[jA,jB,jC,Act.put,jD,jE,jF];refine' kAa (i:=3) (v:=_) [4,5,7] (by kernel_rfl) rfl (by kernel_rfl) (by kernel_rfl) (fun _ _ _ h=>h) (by rfl) (by rintro w' ⟨c0,c1⟩;go_simp;try with_reducible rfl) HCx.out ?_;simp only[jA,jB,jC,Act.put,jD,jE,jF];refine' kAa (i:=4) (v:=_) [5,7] (by kernel_rfl) rfl (by kernel_rfl) (by kernel_rfl) (fun _ _ _ h=>h) (by rfl) (by rintro w' ⟨c0,c1⟩;go_simp;try with_reducible rfl) HCx.out ?_;simp only[jA,jB,jC,Act.put,jD,jE,jF]
  refine kHu [2,5,6] [5,7] (fun i=>if i≤5 then 0 else 1) (fun c=>if c=0 then kJc 2 5 26 29 w3.heap.size 21 n (ivs .i32 (L.map (·.1))) (.slice aV n cV)else if c=1 then layJ 6 8 #[.slice none 0 0,.slice none 0 0] 63 else fun _ _ _ _=>True) w3.heap.size w3 _ [] #[true,true,true,true,true,true,true,false] 1
   (kH0 (D:=[26,29,8]) (own:=fun i=>if i≤5 then 0 else 1) (by kernel_rfl)) (kIu (D:=[26,29,8]) (by kernel_rfl)) ?hsC ?hsloc ?hsstep ?hsend 3 _ _ _ (fun _ _=>False) (by kernel_rfl) rfl ?hsJ rfl (fun _ _=>rfl) (Below.refl _ _) jR (fun _ _ h=>h.elim) (fun _ _ _ _ h=>h.elim)
  case hsC=>
   intro w' hb;exact⟨(hb.cell (p:=⟨b0,0,none⟩) (World.block_lt_of_cell? w3 _ HCx.out.1)).trans HCx.out.1,(hb.cell (p:=⟨b0,1,none⟩) (World.block_lt_of_cell? w3 _ HCx.out.2)).trans HCx.out.2⟩
  case hsloc=>
   intro c l l' t t' T w w' hJ hl ht hsz hk
   by_cases c0:c=0
   ·subst c0;exact kLy hJ (hl 2 (by simp) rfl) (hl 5 (by simp) rfl) (ht 2 (by simp) rfl 26 ⟨_,rfl,rfl⟩) (ht 5 (by simp) rfl 29 ⟨_,rfl,rfl⟩) hk
   ·by_cases c1:c=1
    ·subst c1;exact kMv hJ (hl 6 (by simp) rfl) (ht 6 (by simp) rfl 8 ⟨_,rfl,rfl⟩) hk
    ·rw[if_neg c0,if_neg c1];trivial
  case hsJ=>
   intro c
   by_cases c0:c=0
   ·subst c0;exact⟨(fun e=>by cases e),(fun e=>by cases e)⟩
   ·by_cases c1:c=1
    ·subst c1
     exact fun e=>by cases e
    ·rw[if_neg c0,if_neg c1];trivial
  case hsstep=>
   intro i hi o ho l a T w hisz hun hJ haft hz ho' hb hzz hT
   have hi':i=2∨i=5∨i=6:=by simpa using hi
   have hsl:=fun s hs=>ho' s (kEv (D:=[26,29,8]) (own:=fun i=>if i≤5 then 0 else 1) (by kernel_rfl) hs)
   clear ho' hi;have hz50:a.tmps.size=50:=hz
   have hnb:n≤1114112:=by have:=HLb.out;have:=HN.out;omega
   rcases hi' with rfl | rfl | rfl
   ·obtain rfl:=Option.some.inj ho;exact⟨rfl,kLz el32 (by decide) rfl (by omega) rfl hisz hun hJ hzz hT (kCo (hsl 25 (by decide))) (by simp[ivs,HN.out]) (HT3.out.below hb jR).src HnT.out (kHa _ _) (by omega) (by unfold maxLen;omega)⟩
   ·obtain rfl:=Option.some.inj ho;exact⟨rfl,kL0 (by decide) (by decide) rfl (by omega) rfl (kCo (hsl 28 (by decide))) (fun aa ca w=>by kernel_rfl) hisz (haft ⟨2,.data⟩ (by simp) rfl) hJ hT⟩
   ·obtain rfl:=Option.some.inj ho;exact⟨rfl,kMw rfl (by omega) hisz hT (by kernel_rfl)⟩
  case hsend=>
   intro a w T hd hJ hz ho hb hzz hT hdj;obtain⟨a1,c1,g1,g2,gT,g3⟩:=(hJ 0).1 rfl;have g3:=g3 rfl;obtain⟨b8,g4,g5,g6⟩:=(hJ 1) rfl
   have hb8:∀k,(Value.slice a1 n c1).ownBlock=some k→k≠b8:=fun k e e2=>hdj 0 1 k (by decide) (gT k e) (by rw[e2];exact g6)
   have hz8:=hT 1 b8 g6;have he:=kJr [26,29,8] hz (fun s hs=>ho s (kEv (D:=[26,29,8]) (own:=fun i=>if i≤5 then 0 else 1) (by kernel_rfl) hs))
   have k1:a.tmps.getD 26 undef= .slice a1 n c1:=by rw[Array.getD_eq_getD_getElem?,g1];rfl
   have k2:a.tmps.getD 29 undef= .agg #[.slice a1 n c1,.slice aV n cV]:=by rw[Array.getD_eq_getD_getElem?,g3];rfl
   have k3:a.tmps.getD 8 undef= .pointer (some ⟨b8,0,none⟩):=by rw[Array.getD_eq_getD_getElem?,g4];rfl
   simp only[List.foldl_cons,List.foldl_nil,k1,k2,k3]at he;obtain⟨tm,dfs⟩:=a;obtain rfl:dfs=[]:=hd;obtain rfl:tm=_:=he;refine kA3 7 (by rfl) (by kernel_rfl) (by kernel_rfl) ?_;simp only[List.drop_succ_cons,List.drop_zero,List.setIfInBounds_toArray,List.set_cons_zero,List.set_cons_succ];obtain⟨gg,hgg,hgz,hgl, -⟩:=Own.at g2 (by omega);subst hgg;have hne8:gg≠b8:=hb8 gg rfl;have xb:w.heap[b0+1]? =some (.cells #[.slice none 0 0,.slice none 0 0] 63 (0,0)):=(hb.block (b0+1) (by have:=HD.out.size;have:=HW.out.2.2.2;omega)).trans ((HD.out.block (b0+1) (by have:=HW.out.2.2.2;omega)).trans HW.out.2.2.1)
   have hzb:b0+1<w3.heap.size:=by have:=HD.out.size;have:=HW.out.2.2.2;omega
   have q1:=jK w b8 0 _ _ (0,0) g5;have q2:=jK w b8 1 _ _ (0,0) g5;have qf:=jO w b8 0 _ _ g5;have qf1:=jO w b8 1 _ _ g5;simp at q1 q2;have y1:=jP w b8 0 _ _ (.slice (some ⟨gg,0,none⟩) n c1) g5;have y2:=jP _ b8 1 _ _ (.slice aV n cV) y1;have hg:w.grownBy ((w.setCell ⟨b8,0,none⟩ (.slice (some ⟨gg,0,none⟩) n c1)).setCell ⟨b8,1,none⟩ (.slice aV n cV)) (some b8):=kAm (kAe w b8 0 _) (kAe _ b8 1 _);have o1:=World.ownsRow.kept g2 hg (.inr (fun e=>hne8 (by simpa [Value.ownBlock]using e)));have xb1:=(hg.block (b0+1) (jL xb) (fun e=>by cases e;omega)).trans xb
   have Y2:=jH y2;have O1:=jH o1;have XB1:=jH xb1
   have HBb:Hid (Below w3.heap.size w3 ((w.setCell ⟨b8,0,none⟩ (.slice (some ⟨gg,0,none⟩) n c1)).setCell ⟨b8,1,none⟩ (.slice aV n cV))):=jH ((hb.setCell (p:=⟨b8,0,none⟩) hz8.1 _).setCell (p:=⟨b8,1,none⟩) hz8.1 _);have HGz:=jH (And.intro hgz (And.intro hz8 hne8));clear y1 y2 hg o1 xb xb1 g1 g2 gT g3 g4 g5 g6 k1 k2 k3 hJ hz ho hT hdj hb hzz fz p0 p1 hb8 hz8 hgl hgz
   gi_wp2
   go_upto_region 4 with(fail)
   clear qf qf1 q1 q2;generalize ((w.setCell ⟨b8,0,none⟩ (.slice (some ⟨gg,0,none⟩) n c1)).setCell ⟨b8,1,none⟩ (.slice aV n cV))=w5 at*;have q8:=jK w5 b8 0 _ _ (0,0) Y2.out;simp at q8
   have hxl:m<(ivs .i32 (L.map (·.1))).length:=by rw[Own.len O1.out];have:=HM.out;omega
   have qg:w5.cell? ⟨gg,m,none⟩=some (ivs .i32 (L.map (·.1)))[m]:=Own.cell O1.out m hxl;have qgf:w5.frozen? ⟨gg,m,none⟩=false:=Own.unfrozen O1.out m;have O2:=jH (Own.store O1.out m (.int .i32 to));have Y3:Hid ((w5.setCell ⟨gg,m,none⟩ (.int .i32 to)).heap[b8]? =some (.cells #[.slice (some ⟨gg,0,none⟩) n c1,.slice aV n cV] 63 (0,0))):=jH (by rw[jQ w5 ⟨gg,m,none⟩ b8 _ (fun e=>hne8 e.symm)];exact Y2.out);have X3:Hid ((w5.setCell ⟨gg,m,none⟩ (.int .i32 to)).heap[b0+1]? =some (.cells #[.slice none 0 0,.slice none 0 0] 63 (0,0))):=jH (by rw[jQ w5 ⟨gg,m,none⟩ (b0+1) _ (by have:=HGz.out.1;show b0+1≠gg;omega)];exact XB1.out);have B3:=jH (HBb.out.setCell (p:=⟨gg,m,none⟩) HGz.out.1 (.int .i32 to));generalize (ivs .i32 (L.map (·.1)))[m]=old at*
   go_upto_region 5 with(fail)
   clear q8 qg qgf;generalize w5.setCell ⟨gg,m,none⟩ (.int .i32 to)=w6 at*;have q1:=jK w6 (b0+1) 0 _ _ (0,0) X3.out;have q2:=jK w6 (b0+1) 1 _ _ (0,0) X3.out;have qf:=jO w6 (b0+1) 0 _ _ X3.out;have qf1:=jO w6 (b0+1) 1 _ _ X3.out;have r1:=jK w6 b8 0 _ _ (0,0) Y3.out;have r2:=jK w6 b8 1 _ _ (0,0) Y3.out;simp at q1 q2 r1 r2;go_wp2
   have y1:=jP w6 (b0+1) 0 _ _ (.slice (some ⟨gg,0,none⟩) n c1) X3.out;have y2:=jP _ (b0+1) 1 _ _ (.slice aV n cV) y1;refine jS (results_cell_row rfl _ _ (b0+1) _ _ _ _ rfl y2 Try.underlying63 rfl rfl) rfl ?_;have hg:w6.grownBy ((w6.setCell ⟨b0+1,0,none⟩ (.slice (some ⟨gg,0,none⟩) n c1)).setCell ⟨b0+1,1,none⟩ (.slice aV n cV)) (some (b0+1)):=kAm (kAe w6 (b0+1) 0 _) (kAe _ (b0+1) 1 _)
   have hne1:gg≠b0+1:=by have:=HGz.out.1;omega
   have o1:=World.ownsRow.kept O2.out hg (.inr (fun e=>hne1 (by simpa [Value.ownBlock]using e)));have hB6:=(((HW.out.1.trans (HD.out.mono HW.out.1.size)).trans (B3.out.mono (Nat.le_trans HW.out.1.size HD.out.size))).setCell (p:=⟨b0+1,0,none⟩) (by show _≤b0+1;have:=HBz.out;omega) (.slice (some ⟨gg,0,none⟩) n c1)).setCell (p:=⟨b0+1,1,none⟩) (by show _≤b0+1;have:=HBz.out;omega) (.slice aV n cV);rw[HWl.out]
   refine⟨_,rfl,⟨some ⟨gg,0,none⟩,c1,aV,cV,?_,?_,?_,(fun e=>by cases e),HnV.out⟩,hB6⟩
   ·first
    | (rw[HLs.out.2.2];rfl)
    | simp[HLs.out.2.2]
   ·rw[←HLs.out.1];exact Own.ints (by rw[←kJu];exact o1)
   ·rw[←HLs.out.2.1];exact HV.out.below hB6 jR
 ·have hni:(0:Int)<(n:Int):=by omega
  have hnm:(n:Int) - 1=(m:Int):=by omega
  have HWl:Hid (kF0 L to v=L++[(to,v)]):=jH (by unfold kF0;rw[hla];simp only;rw[if_neg hv]);obtain⟨hml,hmx⟩:=List.getElem?_eq_some_iff.1 hg;obtain⟨bV,oV,haV⟩:=HV2.out.some (by omega);subst haV;have r0:=HV2.out.get m hml;rw[hmx]at r0;have hve:(x.2==v)=false:=beq_false_of_ne hv
  have hw64:wrap64 (m:Int)=(m:Int):=by have:=HLb.out;have:=HN.out;unfold wrap64;omega
  have hmn:(m:Int)<(n:Int):=by omega
  clear hm hla hg hmx hv
  go_upto_region 6 with(fail)
  generalize (some (⟨bV,oV,none⟩:Addr))=aV at*;clear r0 hve hw64 hmn hnm;refine(wpIn_wide (n:=2)).1 ?_;refine kAi [12,13] (fun w':World=>w'.cell? ⟨b0,0,none⟩=some (.slice aT n cT)∧w'.cell? ⟨b0,1,none⟩=some (.slice aV n cV)) (by kernel_rfl) ?_;have HCx:Hid ((fun w':World=>w'.cell? ⟨b0,0,none⟩=some (.slice aT n cT)∧w'.cell? ⟨b0,1,none⟩=some (.slice aV n cV)) w2.drew):=jH ⟨q0,q1⟩;have HD:Hid (Below w2.heap.size w2 w2.drew):=jH (Below.refl _ w2).drew
  have HT3:=jH (HT2.out.below HD.out jR);have HV3:=jH (HV2.out.below HD.out jR)
  have el32:kEs Try.prog 60 21 (.int .i32 0) 1 4:=⟨Try.underlying60,by kernel_rfl,by kernel_rfl,by decide⟩
  have el64:kEs Try.prog 61 3 (.int .i64 0) 1 8:=⟨Try.underlying61,by kernel_rfl,by kernel_rfl,by decide⟩
  clear q0 q1;generalize w2.drew=w3 at*;refine' kAd (i:=0) (v:=_) [1,2,5,12,13] (by kernel_rfl) rfl (by kernel_rfl) (fun _ _ _ h=>h) (by rfl) (by rintro w' ⟨c0,c1⟩;go_simp;try with_reducible rfl) HCx.out ?_;simp only[jA,jB,jC,Act.put,jD,jE,jF];refine' kAd (i:=1) (v:=_) [2,5,12,13] (by kernel_rfl) rfl (by kernel_rfl) (fun _ _ _ h=>h) (by rfl) (by rintro w' ⟨c0,c1⟩;go_simp;try with_reducible rfl) HCx.out ?_;simp only[jA,jB,jC,Act.put,jD,jE,jF];refine' kAd (i:=3) (v:=_) [4,5,12,13] (by kernel_rfl) rfl (by kernel_rfl) (fun _ _ _ h=>h) (by rfl) (by rintro w' ⟨c0,c1⟩;go_simp;try with_reducible rfl) HCx.out ?_;simp only[jA,jB,jC,Act.put,jD,jE,jF];refine' kAd (i:=6) (v:=_) [7,8,11,12,13] (by kernel_rfl) rfl (by kernel_rfl) (fun _ _ _ h=>h) (by rfl) (by rintro w' ⟨c0,c1⟩;go_simp;try with_reducible rfl) HCx.out ?_;simp only[jA,jB,jC,Act.put,jD,jE,jF];refine' kAd (i:=7) (v:=_) [8,11,12,13] (by kernel_rfl) rfl (by kernel_rfl) (fun _ _ _ h=>h) (by rfl) (by rintro w' ⟨c0,c1⟩;go_simp;try with_reducible rfl) HCx.out ?_;simp only[jA,jB,jC,Act.put,jD,jE,jF];refine' kAd (i:=9) (v:=_) [10,11,12,13] (by kernel_rfl) rfl (by kernel_rfl) (fun _ _ _ h=>h) (by rfl) (by rintro w' ⟨c0,c1⟩;go_simp;try with_reducible rfl) HCx.out ?_;simp only[jA,jB,jC,Act.put,jD,jE,jF]
  refine kHu [2,4,5,8,10,11] [12,13] (fun i=>if i≤5 then 0 else 1) (fun c=>if c=0 then kKm 2 4 5 39 41 42 w3.heap.size 21 n (ivs .i32 (L.map (·.1))) (.int .i32 to)else if c=1 then kKm 8 10 11 45 47 48 w3.heap.size 3 n (ivs .i64 (L.map (·.2))) (.int .i64 v)else fun _ _ _ _=>True) w3.heap.size w3 _ [] #[true,true,true,true,true,true,true,true,true,true,true,true,false,false] 2
   (kH0 (D:=[39,41,42,45,47,48]) (own:=fun i=>if i≤5 then 0 else 1) (by kernel_rfl)) (kIu (D:=[39,41,42,45,47,48]) (by kernel_rfl)) ?hC ?hloc ?hstep ?hend 6 _ _ _ (fun _ _=>False) (by kernel_rfl) rfl ?hJ rfl (fun _ _=>rfl) (Below.refl _ _) jR (fun _ _ h=>h.elim) (fun _ _ _ _ h=>h.elim)
  case hC=>
   intro w' hb;exact⟨(hb.cell (p:=⟨b0,0,none⟩) (World.block_lt_of_cell? w3 _ HCx.out.1)).trans HCx.out.1,(hb.cell (p:=⟨b0,1,none⟩) (World.block_lt_of_cell? w3 _ HCx.out.2)).trans HCx.out.2⟩
  case hloc=>
   intro c l l' t t' T w w' hJ hl ht hsz hk
   by_cases c0:c=0
   ·subst c0;exact kIf hJ (hl 2 (by simp) rfl) (hl 4 (by simp) rfl) (hl 5 (by simp) rfl) (ht 2 (by simp) rfl 39 ⟨_,rfl,rfl⟩) (ht 4 (by simp) rfl 41 ⟨_,rfl,rfl⟩) (ht 5 (by simp) rfl 42 ⟨_,rfl,rfl⟩) hk
   ·by_cases c1:c=1
    ·subst c1;exact kIf hJ (hl 8 (by simp) rfl) (hl 10 (by simp) rfl) (hl 11 (by simp) rfl) (ht 8 (by simp) rfl 45 ⟨_,rfl,rfl⟩) (ht 10 (by simp) rfl 47 ⟨_,rfl,rfl⟩) (ht 11 (by simp) rfl 48 ⟨_,rfl,rfl⟩) hk
    ·rw[if_neg c0,if_neg c1];trivial
  case hJ=>
   intro c
   by_cases c0:c=0
   ·subst c0;exact⟨(fun e=>by cases e),(fun e=>by cases e),(fun e=>by cases e),(fun e=>by cases e)⟩
   ·by_cases c1:c=1
    ·subst c1;exact⟨(fun e=>by cases e),(fun e=>by cases e),(fun e=>by cases e),(fun e=>by cases e)⟩
    ·rw[if_neg c0,if_neg c1];trivial
  case hstep=>
   intro i hi o ho l a T w hisz hun hJ haft hz ho' hb hzz hT
   have hi':i=2∨i=4∨i=5∨i=8∨i=10∨i=11:=by simpa using hi
   have hsl:=fun s hs=>ho' s (kEv (D:=[39,41,42,45,47,48]) (own:=fun i=>if i≤5 then 0 else 1) (by kernel_rfl) hs)
   clear ho' hi;have hz50:a.tmps.size=50:=hz
   have hnb:n≤1114112:=by have:=HLb.out;have:=HN.out;omega
   rcases hi' with rfl | rfl | rfl | rfl | rfl | rfl
   ·obtain rfl:=Option.some.inj ho;exact⟨rfl,kIg el32 (by decide) (by decide) (by decide) rfl (by omega) rfl hisz hun hJ hzz hT (kCo (hsl 38 (by decide))) (by simp[ivs,HN.out]) (HT3.out.below hb jR).src HnT.out (kHa _ _) (by omega) (by unfold maxLen;omega)⟩
   ·obtain rfl:=Option.some.inj ho;exact⟨rfl,kIh (by decide) (by decide) (by decide) rfl (by omega) hisz hun hJ hzz hT (kIi 60 (.tmp 40) rfl _ (kCo (hsl 40 (by decide))) 21 (fun w=>by kernel_rfl))⟩
   ·obtain rfl:=Option.some.inj ho;exact⟨rfl,kGw el32 (by decide) (by decide) rfl (by omega) rfl hisz (haft ⟨2,.data⟩ (by simp) rfl) (haft ⟨4,.data⟩ (by simp) rfl) (kG9 hun) hJ hzz hT rfl (by omega) (by unfold maxLen;omega)⟩
   ·obtain rfl:=Option.some.inj ho;exact⟨rfl,kIg el64 (by decide) (by decide) (by decide) rfl (by omega) rfl hisz hun hJ hzz hT (kCo (hsl 44 (by decide))) (by simp[ivs,HN.out]) (HV3.out.below hb jR).src HnV.out (kHa _ _) (by omega) (by unfold maxLen;omega)⟩
   ·obtain rfl:=Option.some.inj ho;exact⟨rfl,kIh (by decide) (by decide) (by decide) rfl (by omega) hisz hun hJ hzz hT (kIi 61 (.tmp 46) rfl _ (kCo (hsl 46 (by decide))) 3 (fun w=>by kernel_rfl))⟩
   ·obtain rfl:=Option.some.inj ho;exact⟨rfl,kGw el64 (by decide) (by decide) rfl (by omega) rfl hisz (haft ⟨8,.data⟩ (by simp) rfl) (haft ⟨10,.data⟩ (by simp) rfl) (kG9 hun) hJ hzz hT rfl (by omega) (by unfold maxLen;omega)⟩
  case hend=>
   intro a w T hd hJ hz ho hb hzz hT hdj;obtain⟨a1,c1,g1,g2, -⟩:=(hJ 0).2.2.1 rfl;obtain⟨a2,c2,g3,g4, -⟩:=(hJ 1).2.2.1 rfl;have he:=kJr [39,41,42,45,47,48] hz (fun s hs=>ho s (kEv (D:=[39,41,42,45,47,48]) (own:=fun i=>if i≤5 then 0 else 1) (by kernel_rfl) hs))
   have k1:a.tmps.getD 42 undef= .slice a1 (n+1) c1:=by rw[Array.getD_eq_getD_getElem?,g1];rfl
   have k2:a.tmps.getD 48 undef= .slice a2 (n+1) c2:=by rw[Array.getD_eq_getD_getElem?,g3];rfl
   simp only[List.foldl_cons,List.foldl_nil,k1,k2]at he;obtain⟨tm,dfs⟩:=a;obtain rfl:dfs=[]:=hd;generalize tm.getD 39 undef=v39 at he;generalize tm.getD 41 undef=v41 at he;generalize tm.getD 45 undef=v45 at he;generalize tm.getD 47 undef=v47 at he;obtain rfl:tm=_:=he;refine kA3 12 (by rfl) (by kernel_rfl) (by kernel_rfl) ?_;simp only[List.drop_succ_cons,List.drop_zero,List.setIfInBounds_toArray,List.set_cons_zero,List.set_cons_succ];have xb:w.heap[b0+1]? =some (.cells #[.slice none 0 0,.slice none 0 0] 63 (0,0)):=(hb.block (b0+1) (by have:=HD.out.size;have:=HW.out.2.2.2;omega)).trans ((HD.out.block (b0+1) (by have:=HW.out.2.2.2;omega)).trans HW.out.2.2.1);have q1:=jK w (b0+1) 0 _ _ (0,0) xb;have q2:=jK w (b0+1) 1 _ _ (0,0) xb;have qf:=jO w (b0+1) 0 _ _ xb;have qf1:=jO w (b0+1) 1 _ _ xb;simp at q1 q2
   have XB:=jH xb;have G2:=jH g2;have G4:=jH g4
   have HB3:=jH hb;have HZ3:=jH hzz
   clear xb g1 g2 g3 g4 k1 k2 hJ hz ho hT hdj hb hzz fz p0 p1
   gi_wp2
   go_wp2
   have y1:=jP w (b0+1) 0 _ _ (.slice a1 (n+1) c1) XB.out;have y2:=jP _ (b0+1) 1 _ _ (.slice a2 (n+1) c2) y1;refine jS (results_cell_row rfl _ _ (b0+1) _ _ _ _ rfl y2 Try.underlying63 rfl rfl) rfl ?_
   have hzb:b0+1<w3.heap.size:=by have:=HD.out.size;have:=HW.out.2.2.2;omega
   have hg:w.grownBy ((w.setCell ⟨b0+1,0,none⟩ (.slice a1 (n+1) c1)).setCell ⟨b0+1,1,none⟩ (.slice a2 (n+1) c2)) (some (b0+1)):=kAm (kAe w (b0+1) 0 _) (kAe _ (b0+1) 1 _)
   have o1:=G2.out.kept hg (by
    cases e2:(Value.slice a1 (n+1) c1).ownBlock with
    | none=>exact .inl rfl
    | some k=>exact .inr (fun e3=>by cases e3;have:=(World.ownsRow.lt G2.out _ e2).1;omega))
   have o2:=G4.out.kept hg (by
    cases e2:(Value.slice a2 (n+1) c2).ownBlock with
    | none=>exact .inl rfl
    | some k=>exact .inr (fun e3=>by cases e3;have:=(World.ownsRow.lt G4.out _ e2).1;omega))
   rw[HWl.out]
   refine⟨_,rfl,⟨a1,c1,a2,c2,?_,?_,?_,fun e=> ?_,fun e=> ?_⟩,?_⟩
   ·simp[HN.out]
   ·rw[List.map_append];exact Own.ints (by rw[kEc];exact o1)
   ·rw[List.map_append];exact Own.ints (by rw[kEc];exact o2)
   ·obtain⟨g,e2, -⟩:=Own.at o1 (by omega)
    rw[e2]at e;cases e
   ·obtain⟨g,e2, -⟩:=Own.at o2 (by omega)
    rw[e2]at e;cases e
   ·exact(((HW.out.1.trans (HD.out.mono HW.out.1.size)).trans (HB3.out.mono (Nat.le_trans HW.out.1.size HD.out.size))).setCell (p:=⟨b0+1,0,none⟩) (by show _≤b0+1;have:=HBz.out;omega) _).setCell (p:=⟨b0+1,1,none⟩) (by show _≤b0+1;have:=HBz.out;omega) _
 ·have hni:¬(0:Int)<(n:Int):=by omega
  have HWl:Hid (kF0 L to v=L++[(to,v)]):=jH (by
   have:L=[]:=List.length_eq_zero_iff.1 (by rw[←HN.out];exact h0)
   rw[this];rfl)
  clear h0
  go_upto_region 6 with(fail)
  refine(wpIn_wide (n:=2)).1 ?_;refine kAi [12,13] (fun w':World=>w'.cell? ⟨b0,0,none⟩=some (.slice aT n cT)∧w'.cell? ⟨b0,1,none⟩=some (.slice aV n cV)) (by kernel_rfl) ?_;have HCx:Hid ((fun w':World=>w'.cell? ⟨b0,0,none⟩=some (.slice aT n cT)∧w'.cell? ⟨b0,1,none⟩=some (.slice aV n cV)) w2.drew):=jH ⟨q0,q1⟩;have HD:Hid (Below w2.heap.size w2 w2.drew):=jH (Below.refl _ w2).drew
  have HT3:=jH (HT2.out.below HD.out jR);have HV3:=jH (HV2.out.below HD.out jR)
  have el32:kEs Try.prog 60 21 (.int .i32 0) 1 4:=⟨Try.underlying60,by kernel_rfl,by kernel_rfl,by decide⟩
  have el64:kEs Try.prog 61 3 (.int .i64 0) 1 8:=⟨Try.underlying61,by kernel_rfl,by kernel_rfl,by decide⟩
  clear q0 q1;generalize w2.drew=w3 at*;refine' kAd (i:=0) (v:=_) [1,2,5,12,13] (by kernel_rfl) rfl (by kernel_rfl) (fun _ _ _ h=>h) (by rfl) (by rintro w' ⟨c0,c1⟩;go_simp;try with_reducible rfl) HCx.out ?_;simp only[jA,jB,jC,Act.put,jD,jE,jF];refine' kAd (i:=1) (v:=_) [2,5,12,13] (by kernel_rfl) rfl (by kernel_rfl) (fun _ _ _ h=>h) (by rfl) (by rintro w' ⟨c0,c1⟩;go_simp;try with_reducible rfl) HCx.out ?_;simp only[jA,jB,jC,Act.put,jD,jE,jF];refine' kAd (i:=3) (v:=_) [4,5,12,13] (by kernel_rfl) rfl (by kernel_rfl) (fun _ _ _ h=>h) (by rfl) (by rintro w' ⟨c0,c1⟩;go_simp;try with_reducible rfl) HCx.out ?_;simp only[jA,jB,jC,Act.put,jD,jE,jF];refine' kAd (i:=6) (v:=_) [7,8,11,12,13] (by kernel_rfl) rfl (by kernel_rfl) (fun _ _ _ h=>h) (by rfl) (by rintro w' ⟨c0,c1⟩;go_simp;try with_reducible rfl) HCx.out ?_;simp only[jA,jB,jC,Act.put,jD,jE,jF];refine' kAd (i:=7) (v:=_) [8,11,12,13] (by kernel_rfl) rfl (by kernel_rfl) (fun _ _ _ h=>h) (by rfl) (by rintro w' ⟨c0,c1⟩;go_simp;try with_reducible rfl) HCx.out ?_;simp only[jA,jB,jC,Act.put,jD,jE,jF];refine' kAd (i:=9) (v:=_) [10,11,12,13] (by kernel_rfl) rfl (by kernel_rfl) (fun _ _ _ h=>h) (by rfl) (by rintro w' ⟨c0,c1⟩;go_simp;try with_reducible rfl) HCx.out ?_;simp only[jA,jB,jC,Act.put,jD,jE,jF]
  refine kHu [2,4,5,8,10,11] [12,13] (fun i=>if i≤5 then 0 else 1) (fun c=>if c=0 then kKm 2 4 5 39 41 42 w3.heap.size 21 n (ivs .i32 (L.map (·.1))) (.int .i32 to)else if c=1 then kKm 8 10 11 45 47 48 w3.heap.size 3 n (ivs .i64 (L.map (·.2))) (.int .i64 v)else fun _ _ _ _=>True) w3.heap.size w3 _ [] #[true,true,true,true,true,true,true,true,true,true,true,true,false,false] 2
   (kH0 (D:=[39,41,42,45,47,48]) (own:=fun i=>if i≤5 then 0 else 1) (by kernel_rfl)) (kIu (D:=[39,41,42,45,47,48]) (by kernel_rfl)) ?zhC ?zhloc ?zhstep ?zhend 6 _ _ _ (fun _ _=>False) (by kernel_rfl) rfl ?zhJ rfl (fun _ _=>rfl) (Below.refl _ _) jR (fun _ _ h=>h.elim) (fun _ _ _ _ h=>h.elim)
  case zhC=>
   intro w' hb;exact⟨(hb.cell (p:=⟨b0,0,none⟩) (World.block_lt_of_cell? w3 _ HCx.out.1)).trans HCx.out.1,(hb.cell (p:=⟨b0,1,none⟩) (World.block_lt_of_cell? w3 _ HCx.out.2)).trans HCx.out.2⟩
  case zhloc=>
   intro c l l' t t' T w w' hJ hl ht hsz hk
   by_cases c0:c=0
   ·subst c0;exact kIf hJ (hl 2 (by simp) rfl) (hl 4 (by simp) rfl) (hl 5 (by simp) rfl) (ht 2 (by simp) rfl 39 ⟨_,rfl,rfl⟩) (ht 4 (by simp) rfl 41 ⟨_,rfl,rfl⟩) (ht 5 (by simp) rfl 42 ⟨_,rfl,rfl⟩) hk
   ·by_cases c1:c=1
    ·subst c1;exact kIf hJ (hl 8 (by simp) rfl) (hl 10 (by simp) rfl) (hl 11 (by simp) rfl) (ht 8 (by simp) rfl 45 ⟨_,rfl,rfl⟩) (ht 10 (by simp) rfl 47 ⟨_,rfl,rfl⟩) (ht 11 (by simp) rfl 48 ⟨_,rfl,rfl⟩) hk
    ·rw[if_neg c0,if_neg c1];trivial
  case zhJ=>
   intro c
   by_cases c0:c=0
   ·subst c0;exact⟨(fun e=>by cases e),(fun e=>by cases e),(fun e=>by cases e),(fun e=>by cases e)⟩
   ·by_cases c1:c=1
    ·subst c1;exact⟨(fun e=>by cases e),(fun e=>by cases e),(fun e=>by cases e),(fun e=>by cases e)⟩
    ·rw[if_neg c0,if_neg c1];trivial
  case zhstep=>
   intro i hi o ho l a T w hisz hun hJ haft hz ho' hb hzz hT
   have hi':i=2∨i=4∨i=5∨i=8∨i=10∨i=11:=by simpa using hi
   have hsl:=fun s hs=>ho' s (kEv (D:=[39,41,42,45,47,48]) (own:=fun i=>if i≤5 then 0 else 1) (by kernel_rfl) hs)
   clear ho' hi;have hz50:a.tmps.size=50:=hz
   have hnb:n≤1114112:=by have:=HLb.out;have:=HN.out;omega
   rcases hi' with rfl | rfl | rfl | rfl | rfl | rfl
   ·obtain rfl:=Option.some.inj ho;exact⟨rfl,kIg el32 (by decide) (by decide) (by decide) rfl (by omega) rfl hisz hun hJ hzz hT (kCo (hsl 38 (by decide))) (by simp[ivs,HN.out]) (HT3.out.below hb jR).src HnT.out (kHa _ _) (by omega) (by unfold maxLen;omega)⟩
   ·obtain rfl:=Option.some.inj ho;exact⟨rfl,kIh (by decide) (by decide) (by decide) rfl (by omega) hisz hun hJ hzz hT (kIi 60 (.tmp 40) rfl _ (kCo (hsl 40 (by decide))) 21 (fun w=>by kernel_rfl))⟩
   ·obtain rfl:=Option.some.inj ho;exact⟨rfl,kGw el32 (by decide) (by decide) rfl (by omega) rfl hisz (haft ⟨2,.data⟩ (by simp) rfl) (haft ⟨4,.data⟩ (by simp) rfl) (kG9 hun) hJ hzz hT rfl (by omega) (by unfold maxLen;omega)⟩
   ·obtain rfl:=Option.some.inj ho;exact⟨rfl,kIg el64 (by decide) (by decide) (by decide) rfl (by omega) rfl hisz hun hJ hzz hT (kCo (hsl 44 (by decide))) (by simp[ivs,HN.out]) (HV3.out.below hb jR).src HnV.out (kHa _ _) (by omega) (by unfold maxLen;omega)⟩
   ·obtain rfl:=Option.some.inj ho;exact⟨rfl,kIh (by decide) (by decide) (by decide) rfl (by omega) hisz hun hJ hzz hT (kIi 61 (.tmp 46) rfl _ (kCo (hsl 46 (by decide))) 3 (fun w=>by kernel_rfl))⟩
   ·obtain rfl:=Option.some.inj ho;exact⟨rfl,kGw el64 (by decide) (by decide) rfl (by omega) rfl hisz (haft ⟨8,.data⟩ (by simp) rfl) (haft ⟨10,.data⟩ (by simp) rfl) (kG9 hun) hJ hzz hT rfl (by omega) (by unfold maxLen;omega)⟩
  case zhend=>
   intro a w T hd hJ hz ho hb hzz hT hdj;obtain⟨a1,c1,g1,g2, -⟩:=(hJ 0).2.2.1 rfl;obtain⟨a2,c2,g3,g4, -⟩:=(hJ 1).2.2.1 rfl;have he:=kJr [39,41,42,45,47,48] hz (fun s hs=>ho s (kEv (D:=[39,41,42,45,47,48]) (own:=fun i=>if i≤5 then 0 else 1) (by kernel_rfl) hs))
   have k1:a.tmps.getD 42 undef= .slice a1 (n+1) c1:=by rw[Array.getD_eq_getD_getElem?,g1];rfl
   have k2:a.tmps.getD 48 undef= .slice a2 (n+1) c2:=by rw[Array.getD_eq_getD_getElem?,g3];rfl
   simp only[List.foldl_cons,List.foldl_nil,k1,k2]at he;obtain⟨tm,dfs⟩:=a;obtain rfl:dfs=[]:=hd;generalize tm.getD 39 undef=v39 at he;generalize tm.getD 41 undef=v41 at he;generalize tm.getD 45 undef=v45 at he;generalize tm.getD 47 undef=v47 at he;obtain rfl:tm=_:=he;refine kA3 12 (by rfl) (by kernel_rfl) (by kernel_rfl) ?_;simp only[List.drop_succ_cons,List.drop_zero,List.setIfInBounds_toArray,List.set_cons_zero,List.set_cons_succ];have xb:w.heap[b0+1]? =some (.cells #[.slice none 0 0,.slice none 0 0] 63 (0,0)):=(hb.block (b0+1) (by have:=HD.out.size;have:=HW.out.2.2.2;omega)).trans ((HD.out.block (b0+1) (by have:=HW.out.2.2.2;omega)).trans HW.out.2.2.1);have q1:=jK w (b0+1) 0 _ _ (0,0) xb;have q2:=jK w (b0+1) 1 _ _ (0,0) xb;have qf:=jO w (b0+1) 0 _ _ xb;have qf1:=jO w (b0+1) 1 _ _ xb;simp at q1 q2
   have XB:=jH xb;have G2:=jH g2;have G4:=jH g4
   have HB3:=jH hb;have HZ3:=jH hzz
   clear xb g1 g2 g3 g4 k1 k2 hJ hz ho hT hdj hb hzz fz p0 p1
   gi_wp2
   go_wp2
   have y1:=jP w (b0+1) 0 _ _ (.slice a1 (n+1) c1) XB.out;have y2:=jP _ (b0+1) 1 _ _ (.slice a2 (n+1) c2) y1;refine jS (results_cell_row rfl _ _ (b0+1) _ _ _ _ rfl y2 Try.underlying63 rfl rfl) rfl ?_
   have hzb:b0+1<w3.heap.size:=by have:=HD.out.size;have:=HW.out.2.2.2;omega
   have hg:w.grownBy ((w.setCell ⟨b0+1,0,none⟩ (.slice a1 (n+1) c1)).setCell ⟨b0+1,1,none⟩ (.slice a2 (n+1) c2)) (some (b0+1)):=kAm (kAe w (b0+1) 0 _) (kAe _ (b0+1) 1 _)
   have o1:=G2.out.kept hg (by
    cases e2:(Value.slice a1 (n+1) c1).ownBlock with
    | none=>exact .inl rfl
    | some k=>exact .inr (fun e3=>by cases e3;have:=(World.ownsRow.lt G2.out _ e2).1;omega))
   have o2:=G4.out.kept hg (by
    cases e2:(Value.slice a2 (n+1) c2).ownBlock with
    | none=>exact .inl rfl
    | some k=>exact .inr (fun e3=>by cases e3;have:=(World.ownsRow.lt G4.out _ e2).1;omega))
   rw[HWl.out]
   refine⟨_,rfl,⟨a1,c1,a2,c2,?_,?_,?_,fun e=> ?_,fun e=> ?_⟩,?_⟩
   ·simp[HN.out]
   ·rw[List.map_append];exact Own.ints (by rw[kEc];exact o1)
   ·rw[List.map_append];exact Own.ints (by rw[kEc];exact o2)
   ·obtain⟨g,e2, -⟩:=Own.at o1 (by omega)
    rw[e2]at e;cases e
   ·obtain⟨g,e2, -⟩:=Own.at o2 (by omega)
    rw[e2]at e;cases e
   ·exact(((HW.out.1.trans (HD.out.mono HW.out.1.size)).trans (HB3.out.mono (Nat.le_trans HW.out.1.size HD.out.size))).setCell (p:=⟨b0+1,0,none⟩) (by show _≤b0+1;have:=HBz.out;omega) _).setCell (p:=⟨b0+1,1,none⟩) (by show _≤b0+1;have:=HBz.out;omega) _
end Go.Proofs.Ytabbabkmojaoaaa
