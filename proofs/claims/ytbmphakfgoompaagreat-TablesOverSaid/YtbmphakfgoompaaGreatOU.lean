/- several texts in one: UR0 UYF F5 UFY UR1 -/
import Derived.Test.YtbmphakfgoompaaGreatOPA
import Derived.Test.YtbmphakfgoompaaGreatOV
import Derived.Test.YtbmphakfgoompaaGreatO3
import Derived.Test.YtbmphakfgoompaaGreatOF
import Derived.Test.YtbmphakfgoompaaGreatOQ
import Derived.Laws.BitsLemmas
import Derived.Test.YtbmphakfgoompaaGreatOO
set_option linter.unusedVariables false
set_option linter.unusedSimpArgs false
set_option maxRecDepth 100000
set_option maxHeartbeats 16000000
namespace Go.Proofs.YtbmphakfgoompaaGreat
open Go.RowKit
structure OvF (k:Nat) (F:Nat→Nat→Int):Prop where
 c:∀r,r<1114112→0≤F 0 r∧F 0 r≤255
 i:∀j,0<j→j<4→∀r,r<1114112→ -2147483648≤F j r∧F j r≤2147483647
 few:∀j,j<4→∃K:List Nat,K.length≤170+2*k∧Bds (F j) K
 one:∃K:List Nat,K.length≤40+2*k∧Bds (F 1) K
def kM4 (F:Nat→Nat→Int) (j f t:Nat) (v:Int):Nat→Nat→Int:=fun i=>if i=j then kFq (F i) f t v else F i
theorem kLs (F:Nat→Nat→Int)(j f t:Nat)(v:Int):kM4 F j f t v j=kFq (F j) f t v:=if_pos rfl
theorem kDn (F:Nat→Nat→Int){i j:Nat}(f t:Nat)(v:Int)(h:i≠j):kM4 F j f t v i=F i:=if_neg h
theorem OvF.len {k:Nat}{F:Nat→Nat→Int}(h:OvF k F)(hk:k≤6){j:Nat}(hj:j<4):(kAk (F j) 1114112).length≤1000:=by
 obtain⟨K,h1,h2⟩:=h.few j hj;have:=kMr h2;omega
theorem OvF.nz {k:Nat}{F:Nat→Nat→Int}(h:OvF k F)(hk:k≤6):(nzR 1114112 (F 1)).length<64:=by
 obtain⟨K,h1,h2⟩:=h.one;have h3:=kMr h2;have h4:(nzR 1114112 (F 1)).length≤(kAk (F 1) 1114112).length:=List.length_filter_le _ _;omega
theorem OvF.skip {k:Nat}{F:Nat→Nat→Int}(h:OvF k F):OvF (k+1) F:=
 ⟨h.c,h.i,fun j hj=>by obtain⟨K,h1,h2⟩:=h.few j hj;exact⟨K,by omega,h2⟩,by obtain⟨K,h1,h2⟩:=h.one;exact⟨K,by omega,h2⟩⟩
theorem OvF.patch {k:Nat}{F:Nat→Nat→Int}(h:OvF k F)(j f t:Nat)(v:Int)(hv: -2147483648≤v∧v≤2147483647)(h0:j=0→0≤v∧v≤255):OvF (k+1) (kM4 F j f t v):=by
 have hb:∀i K,Bds (F i) K→∃K',K'.length≤K.length+2∧Bds (kM4 F j f t v i) K':=fun i K hK=>by
  by_cases e:i=j
  ·exact⟨f :: (t+1) :: K,by simp,by unfold kM4;rw[if_pos e];exact hK.patch f t v⟩
  ·exact⟨K,by omega,by unfold kM4;rw[if_neg e];exact hK⟩
 refine⟨fun r hr=> ?_,fun i h1 h2 r hr=> ?_,fun i hi=> ?_,?_⟩
 ·unfold kM4
  by_cases e:0=j
  ·rw[if_pos e];unfold kFq
   split
   ·exact h0 e.symm
   ·exact h.c r hr
  ·rw[if_neg e];exact h.c r hr
 ·unfold kM4
  by_cases e:i=j
  ·rw[if_pos e];unfold kFq
   split
   ·exact hv
   ·exact h.i i h1 h2 r hr
  ·rw[if_neg e];exact h.i i h1 h2 r hr
 ·obtain⟨K,h1,h2⟩:=h.few i hi;obtain⟨K',h3,h4⟩:=hb i K h2;exact⟨K',by omega,h4⟩
 ·obtain⟨K,h1,h2⟩:=h.one;obtain⟨K',h3,h4⟩:=hb 1 K h2;exact⟨K',by omega,h4⟩
theorem kN9 (D:kAs):kD1 D ((List.range 1114112).filter (fun x:Nat=>decide ((x:Int)∈kCq D))):=by
 refine⟨?_,fun x=> ?_⟩
 ·exact(List.Pairwise.imp (fun h=>Nat.le_of_lt h) List.pairwise_lt_range).filter _
 ·rw[List.mem_filter,List.mem_range,decide_eq_true_eq];exact⟨fun h=>⟨h.2,by omega⟩,fun h=>⟨by omega,h.1⟩⟩
theorem kTo {D:kAs}(hw:kD2 D)(j:Nat):Bds (fvs D j) ((kCq D).map Int.toNat):=by
 intro r h1 h2
 by_cases e:r∈(kCq D).map Int.toNat
 ·exact .inr e
 ·refine .inl (((kN9 D).same hw (a:=r - 1) (r:=r) (by omega) (by omega) (fun x hx h3 h4=>e ?_)).fvs j)
  obtain rfl:x=r:=by omega
  have:=((kN9 D).mem x).1 hx;exact List.mem_map.2 ⟨(x:Nat),this.1,rfl⟩
theorem kQo {D:kAs}(hw:kD2 D)(h:∀r,r<1114112→kHs D r=false){r:Nat}(hr:r<1114112)(hne:fvs D 1 r≠0):r∈D.l2.map (fun s=>s.f.toNat):=by
 have e:=(kTc hw h r hr).2.1;rw[e]at hne;unfold bkF kAs.side kAs.oth brG at hne
 rcases kCt (fun s:kAr=>s.f==((r:Nat):Int)) (fun s=>(s.t,s.v)) D.l2 (0,0)with e2 | ⟨s,hs,hp,e2⟩
 ·rw[e2]at hne;exact absurd rfl hne
 ·refine List.mem_map.2 ⟨s,hs,?_⟩;have:=beq_iff_eq.1 hp
  rw[this];rfl
theorem kSb {D:kAs}(hw:kD2 D)(h:∀r,r<1114112→kHs D r=false):Bds (fvs D 1) (D.l2.map (fun s=>s.f.toNat)++D.l2.map (fun s=>s.f.toNat+1)):=by
 intro r h1 h2
 by_cases e:r∈D.l2.map (fun s=>s.f.toNat)
 ·exact .inr (List.mem_append_left _ e)
 ·by_cases e2:r - 1∈D.l2.map (fun s=>s.f.toNat)
  ·obtain⟨s,hs,he⟩:=List.mem_map.1 e2;exact .inr (List.mem_append_right _ (List.mem_map.2 ⟨s,hs,by have h9:s.f.toNat=r - 1:=he;show s.f.toNat+1=r;omega⟩))
  ·refine .inl ?_
   have a1:fvs D 1 r=0:=Decidable.byContradiction fun hn=>e (kQo hw h h2 hn)
   have a2:fvs D 1 (r - 1)=0:=Decidable.byContradiction fun hn=>e2 (kQo hw h (by omega) hn)
   rw[a1,a2]
theorem OvF.init {D:kAs}(hw:kD2 D)(h:∀r,r<1114112→kHs D r=false)(hl:(kCq D).length≤170)(h2:D.l2.length≤20):OvF 0 (fvs D):=by
 have hf:=kQi (kTn hw h);exact⟨hf.u8,hf.i32,fun j _=>⟨_,by rw[List.length_map];omega,kTo hw j⟩,⟨_,by rw[List.length_append,List.length_map,List.length_map];omega,kSb hw h⟩⟩
end Go.Proofs.YtbmphakfgoompaaGreat

namespace Go.Proofs.YtbmphakfgoompaaGreat
open Go.RowKit
attribute [local go_sem] Oper.semAt_some
theorem kR9 (w:World)(fb:Bool)(rest:Int)(a1:Option Addr)(n1 c1:Nat)(a2:Option Addr)(n2 c2:Nat)(a3:Option Addr)(n3 c3:Nat)(a4:Option Addr)(n4 c4:Nat)(hfb:fb=decide (n1≤20∧n2≤20∧n3≤20∧n4≤20)):
  Calls Tryz.prog 6 #[.agg #[.int .u8 rest,.slice a1 n1 c1,.slice a2 n2 c2,.slice a3 n3 c3,.slice a4 n4 c4]] w fun e w'=>e= .returned (.bool fb)∧Below w.heap.size w w':=by
 have HF:=jH hfb;clear hfb
 have hA:=jN w (.cells #[.int .u8 rest,.slice a1 n1 c1,.slice a2 n2 c2,.slice a3 n3 c3,.slice a4 n4 c4] 27);have HB:=jH ((Below.refl _ w).alloc jR (.cells #[.int .u8 rest,.slice a1 n1 c1,.slice a2 n2 c2,.slice a3 n3 c3,.slice a4 n4 c4] 27))
 have HA:=jH hA;clear hA
 go_enter Tryz.func6,Tryz.ntmps6
 go_upto_region 1 with(fail)
 obtain⟨bx,hbx⟩:∃bx,bx=w.heap.size:=⟨_,rfl⟩
 rw[←hbx]at HA ⊢;generalize w.alloc (.cells #[.int .u8 rest,.slice a1 n1 c1,.slice a2 n2 c2,.slice a3 n3 c3,.slice a4 n4 c4] 27)=w1 at*;have q1:=jK w1 bx 1 _ _ (0,0) HA.out;have q2:=jK w1 bx 2 _ _ (0,0) HA.out;have q3:=jK w1 bx 3 _ _ (0,0) HA.out;have q4:=jK w1 bx 4 _ _ (0,0) HA.out;simp at q1 q2 q3 q4;clear hbx
 by_cases h1:(n1:Int)≤20
 ·by_cases h2:(n2:Int)≤20
  ·by_cases h3:(n3:Int)≤20
   ·by_cases h4:(n4:Int)≤20
    ·have HX:=jH (show fb=true from HF.out.trans (decide_eq_true (by omega)));go_wp2
     go_ret
     exact⟨kJo (congrArg Value.bool HX.out.symm),HB.out⟩
    ·have HX:=jH (show fb=false from HF.out.trans (decide_eq_false (by omega)));go_wp2
     go_ret
     exact⟨kJo (congrArg Value.bool HX.out.symm),HB.out⟩
   ·have HX:=jH (show fb=false from HF.out.trans (decide_eq_false (by omega)));go_wp2
    go_ret
    exact⟨kJo (congrArg Value.bool HX.out.symm),HB.out⟩
  ·have HX:=jH (show fb=false from HF.out.trans (decide_eq_false (by omega)));go_wp2
   go_ret
   exact⟨kJo (congrArg Value.bool HX.out.symm),HB.out⟩
 ·have HX:=jH (show fb=false from HF.out.trans (decide_eq_false (by omega)));go_wp2
  go_ret
  exact⟨kJo (congrArg Value.bool HX.out.symm),HB.out⟩
end Go.Proofs.YtbmphakfgoompaaGreat

set_option maxRecDepth 100000
namespace Go.Proofs.YtbmphakfgoompaaGreat
open Go.ChangeShapes Go.WideShapes Go.ChangeAt Go.RowKit Go.Joins Go.Deep
theorem b32 {x:Int}(h:(Lit.int .i32 x).wf=true):wf32 x:=by
 simpa [wf32,Lit.wf,IntKind.min,IntKind.max,IntKind.signed,IntKind.bits]using h
theorem b8 {x:Int}(h:(Lit.int .u8 x).wf=true):0≤x∧x≤255:=by
 simpa [Lit.wf,IntKind.min,IntKind.max,IntKind.signed,IntKind.bits]using h
theorem kDb {H:Type}{enc:TypeId×Value→H}{P:Program}{w:World}{b0:Nat}{sp:Nat→Bool}{held:Bool}{e:TypeId}{fs:Array Field}{n:Nat}{a:Addr}{o:Nat}{cs:List Value}{x:DataW H×List MemPlace}
  (he:P.underlying e=some (.struct fs))(hone:oneCellFields P fs=true)(hC:P.cellsOf e=fs.size)(hc:w.cells? b0 (a.add o) (P.cellsOf e)=some cs)(h:DataW.trod enc P w b0 sp held n e cs=some x):
  ∀(j:Nat) (f:Field),fs[j]? =some f→∃(v:Value) (y:DataW H×List MemPlace) (n':Nat),w.cell? (a.add (o+j))=some v∧DataW.trod enc P w b0 sp held n' f.type [v]=some y:=by
 obtain⟨_,hl,hat⟩:=World.cells?_some hc;obtain⟨xs,n',_,_,_,hxl,hf⟩:=DataW.trod_struct he h;intro j f hj;have hjl:j<fs.size:=(Array.getElem?_eq_some_iff.1 hj).1
 have hjc:j<cs.length:=by omega
 obtain⟨ho,hk⟩:=Deep.hone_of hone j f hj;have h1:=hf j f hj;rw[ho,hk,show(cs.drop j).take 1=[cs[j]] by rw[List.drop_eq_getElem_cons hjc];rfl,List.getElem?_eq_getElem (show j<xs.length by omega)]at h1;refine⟨cs[j],_,n',?_,h1⟩;have h2:=hat j (by omega);rw[List.getElem?_eq_getElem hjc,Go.Deep.add_add]at h2;exact h2
theorem kGh {α:Type}{Q:Nat→α→Prop}(n:Nat)(h:∀i,i<n→∃c,Q i c):∃cs:List α,cs.length=n∧∀i (hi:i<cs.length),Q i cs[i]:=by
 induction n with
 | zero=>exact⟨[],rfl,fun i hi=>absurd hi (by simp)⟩
 | succ n ih=>
  obtain⟨cs,hl,hq⟩:=ih (fun i hi=>h i (by omega));obtain⟨c,hc⟩:=h n (by omega);refine⟨cs++[c],by simp[hl],fun i hi=> ?_⟩
  by_cases hin:i<cs.length
  ·rw[List.getElem_append_left hin];exact hq i hin
  ·have:i=n:=by simp at hi;omega
   subst this;subst hl;rw[List.getElem_concat_length rfl];exact hc
def kS1 (s:kAr):Prop:=wf32 s.f∧wf32 s.t∧0≤s.v∧s.v≤255
def twW2 (s:TwD):Prop:=wf32 s.a∧wf32 s.s
theorem kMq {H:Type}{enc:TypeId×Value→H}{W:World}{t e c8:TypeId}{f0 f1 f2:Field}{v:Value}{n:Nat}{y:DataW H×List MemPlace}
  (ht: Tryz.prog.underlying t=some (.slice e))(he: Tryz.prog.underlying e=some (.struct #[f0,f1,f2]))(h1:oneCellFields Tryz.prog #[f0,f1,f2]=true)(hC: Tryz.prog.cellsOf e=3)
  (e0: Tryz.prog.underlying f0.type=some (.int .i32))(e1: Tryz.prog.underlying f1.type=some (.int .i32))(e2: Tryz.prog.underlying f2.type=some (.int .u8))
  (h:DataW.trod enc Tryz.prog W 0 (fun _=>true) true n t [v]=some y):∃a len cap rs,v= .slice a len cap∧rs.length=len∧len≤cap∧cap≤maxLen∧kB3 W a rs∧(∀s∈rs,kS1 s)∧(a=none→cap=0):=by
 rcases Deep.open_slice ht h with⟨hcs,hx⟩ | ⟨a,len,cap,m,n',D,Pl,hcs,_,hlc,hcm,hm,hx,hel⟩
 ·simp[Value.cells]at hcs;exact⟨none,0,0,[],hcs,rfl,Nat.le_refl _,Nat.zero_le _,fun i hi=>absurd hi (by simp),(fun p hp=>by cases hp),fun _=>rfl⟩
 ·simp[Value.cells]at hcs;subst hcs
  have hm':m=cap:=by simpa using hm
  have hsp:0<len→a.spot=none:=by
   intro hi;obtain⟨cs',hc,ht'⟩:=hel 0 (by omega);rw[hC]at hc;obtain⟨v0,y0,n0,k0,t0⟩:=kDb he h1 hC (by rw[hC];exact hc) ht' 0 _ rfl
   simpa [Addr.add]using World.cell?_spot k0
  have hch:∀i,i<len→∃c:kAr,kS1 c∧∃b o,some a=some ⟨b,o,none⟩∧W.cell? ⟨b,o+i*3,none⟩=some (.int .i32 c.f)∧W.cell? ⟨b,o+i*3+1,none⟩=some (.int .i32 c.t)∧W.cell? ⟨b,o+i*3+2,none⟩=some (.int .u8 c.v):=by
   intro i hi;have hsp:=hsp (by omega);obtain⟨cs',hc,ht'⟩:=hel i (by omega);rw[hC]at hc;have hf:=kDb he h1 hC (by rw[hC];exact hc) ht';obtain⟨v0,y0,n0,k0,t0⟩:=hf 0 _ rfl;obtain⟨v1,y1,n1,k1,t1⟩:=hf 1 _ rfl;obtain⟨v2,y2,n2,k2,t2⟩:=hf 2 _ rfl;obtain⟨x0,d0,_,w0⟩:=DataW.trod_int e0 t0;obtain⟨x1,d1,_,w1⟩:=DataW.trod_int e1 t1;obtain⟨x2,d2,_,w2⟩:=DataW.trod_int e2 t2;simp at d0 d1 d2;subst d0 d1 d2;obtain⟨b,o,sp⟩:=a;simp only at hsp;subst hsp;simp only[Addr.add_lit,Nat.add_zero,←Nat.add_assoc]at k0 k1 k2;exact⟨⟨x0,x1,x2⟩,⟨b32 w0,b32 w1,b8 w2⟩,b,o,rfl,k0,k1,k2⟩
  obtain⟨chs,hl,hq⟩:=kGh len hch;refine⟨some a,len,cap,chs,rfl,hl,hlc,hcm,fun i hi=>(hq i hi).2,fun p hp=> ?_,fun e=>by cases e⟩;obtain⟨i,hi,rfl⟩:=List.mem_iff_getElem.1 hp;exact(hq i hi).1
theorem kMp {H:Type}{enc:TypeId×Value→H}{W:World}{t e:TypeId}{f0 f1:Field}{v:Value}{n:Nat}{y:DataW H×List MemPlace}
  (ht: Tryz.prog.underlying t=some (.slice e))(he: Tryz.prog.underlying e=some (.struct #[f0,f1]))(h1:oneCellFields Tryz.prog #[f0,f1]=true)(hC: Tryz.prog.cellsOf e=2)
  (e0: Tryz.prog.underlying f0.type=some (.int .i32))(e1: Tryz.prog.underlying f1.type=some (.int .i32))
  (h:DataW.trod enc Tryz.prog W 0 (fun _=>true) true n t [v]=some y):∃a len cap rs,v= .slice a len cap∧rs.length=len∧len≤cap∧cap≤maxLen∧kKd W a rs∧(∀s∈rs,twW2 s)∧(a=none→cap=0):=by
 rcases Deep.open_slice ht h with⟨hcs,hx⟩ | ⟨a,len,cap,m,n',D,Pl,hcs,_,hlc,hcm,hm,hx,hel⟩
 ·simp[Value.cells]at hcs;exact⟨none,0,0,[],hcs,rfl,Nat.le_refl _,Nat.zero_le _,fun i hi=>absurd hi (by simp),(fun p hp=>by cases hp),fun _=>rfl⟩
 ·simp[Value.cells]at hcs;subst hcs
  have hm':m=cap:=by simpa using hm
  have hsp:0<len→a.spot=none:=by
   intro hi;obtain⟨cs',hc,ht'⟩:=hel 0 (by omega);rw[hC]at hc;obtain⟨v0,y0,n0,k0,t0⟩:=kDb he h1 hC (by rw[hC];exact hc) ht' 0 _ rfl
   simpa [Addr.add]using World.cell?_spot k0
  have hch:∀i,i<len→∃c:TwD,twW2 c∧∃b o,some a=some ⟨b,o,none⟩∧W.cell? ⟨b,o+i*2,none⟩=some (.int .i32 c.a)∧W.cell? ⟨b,o+i*2+1,none⟩=some (.int .i32 c.s):=by
   intro i hi;have hsp:=hsp (by omega);obtain⟨cs',hc,ht'⟩:=hel i (by omega);rw[hC]at hc;have hf:=kDb he h1 hC (by rw[hC];exact hc) ht';obtain⟨v0,y0,n0,k0,t0⟩:=hf 0 _ rfl;obtain⟨v1,y1,n1,k1,t1⟩:=hf 1 _ rfl;obtain⟨x0,d0,_,w0⟩:=DataW.trod_int e0 t0;obtain⟨x1,d1,_,w1⟩:=DataW.trod_int e1 t1;simp at d0 d1;subst d0 d1;obtain⟨b,o,sp⟩:=a;simp only at hsp;subst hsp;simp only[Addr.add_lit,Nat.add_zero,←Nat.add_assoc]at k0 k1;exact⟨⟨x0,x1⟩,⟨b32 w0,b32 w1⟩,b,o,rfl,k0,k1⟩
  obtain⟨chs,hl,hq⟩:=kGh len hch;refine⟨some a,len,cap,chs,rfl,hl,hlc,hcm,fun i hi=>(hq i hi).2,fun p hp=> ?_,fun e=>by cases e⟩;obtain⟨i,hi,rfl⟩:=List.mem_iff_getElem.1 hp;exact(hq i hi).1
theorem kQx {H:Type}{enc:TypeId×Value→H}{P:Program}{w:World}{base:Nat}{spare:Nat→Bool}{held:Bool}{r:Reach}{b0:Nat}{t:TypeId}{f0 f1 f2 f3 f4:Field}{v:Value}{d:DataW H}{p:List MemPlace}(hs:P.underlying t=some (.struct #[f0,f1,f2,f3,f4]))(hone:oneCellFields P #[f0,f1,f2,f3,f4]=true)(hC:P.cellsOf t=5)
  (hv:Value.okWide P w r b0 t v)(h:DataW.Trod enc P w base spare held t v d p):
  ∃(v0 v1 v2 v3 v4:Value) (y0 y1 y2 y3 y4:DataW H×List MemPlace) (n:Nat),v= .agg #[v0,v1,v2,v3,v4]∧
   DataW.trod enc P w base spare held n f0.type [v0]=some y0∧DataW.trod enc P w base spare held n f1.type [v1]=some y1∧DataW.trod enc P w base spare held n f2.type [v2]=some y2∧DataW.trod enc P w base spare held n f3.type [v3]=some y3∧DataW.trod enc P w base spare held n f4.type [v4]=some y4:=by
 obtain⟨cs,rfl,hsz⟩:=okWide_struct hs hv
 obtain⟨c0,c1,c2,c3,c4,rfl⟩:∃c0 c1 c2 c3 c4,cs= #[c0,c1,c2,c3,c4]:=by
  obtain⟨l⟩:=cs
  match l,hsz.trans hC with
  | [c0,c1,c2,c3,c4],_=>exact⟨c0,c1,c2,c3,c4,rfl⟩
 obtain⟨fuel,hf⟩:=h;obtain⟨xs,n,_,hx,hl,hlen,hf⟩:=DataW.trod_struct hs hf
 match xs,hlen with
 | [y0,y1,y2,y3,y4],_=>
  obtain⟨o0,k0⟩:=hone_of hone 0 f0 rfl;obtain⟨o1,k1⟩:=hone_of hone 1 f1 rfl;obtain⟨o2,k2⟩:=hone_of hone 2 f2 rfl;obtain⟨o3,k3⟩:=hone_of hone 3 f3 rfl;obtain⟨o4,k4⟩:=hone_of hone 4 f4 rfl;exact⟨c0,c1,c2,c3,c4,y0,y1,y2,y3,y4,n,rfl,by simpa [Value.cells,o0,k0]using hf 0 f0 rfl,by simpa [Value.cells,o1,k1]using hf 1 f1 rfl,by simpa [Value.cells,o2,k2]using hf 2 f2 rfl,by simpa [Value.cells,o3,k3]using hf 3 f3 rfl,by simpa [Value.cells,o4,k4]using hf 4 f4 rfl⟩
structure kKb (w:World) (D:kAs) (a1:Option Addr) (n1 c1:Nat) (a2:Option Addr) (n2 c2:Nat) (a3:Option Addr) (n3 c3:Nat) (a4:Option Addr) (n4 c4:Nat):Prop where
 h1:D.l1.length=n1
 h2:D.l2.length=n2
 h3:D.l3.length=n3
 h4:D.l4.length=n4
 k1:n1≤c1∧c1≤maxLen
 k2:n2≤c2∧c2≤maxLen
 k3:n3≤c3∧c3≤maxLen
 k4:n4≤c4∧c4≤maxLen
 s1:kB3 w a1 D.l1
 s2:kB3 w a2 D.l2
 s3:kKd w a3 D.l3
 s4:kKd w a4 D.l4
 r:0≤D.rest∧D.rest≤255
 w1:∀s∈D.l1,kS1 s
 w2:∀s∈D.l2,kS1 s
 w3:∀s∈D.l3,twW2 s
 w4:∀s∈D.l4,twW2 s
 z1:a1=none→c1=0
 z2:a2=none→c2=0
 z3:a3=none→c3=0
 z4:a4=none→c4=0
theorem kKb.sl {w:World}{D:kAs}{a1:Option Addr}{n1 c1:Nat}{a2:Option Addr}{n2 c2:Nat}{a3:Option Addr}{n3 c3:Nat}{a4:Option Addr}{n4 c4:Nat}(h:kKb w D a1 n1 c1 a2 n2 c2 a3 n3 c3 a4 n4 c4)(b1:n1≤20)(b2:n2≤20)(b3:n3≤20)(b4:n4≤20):
  kKc w D a1 n1 c1 a2 n2 c2 a3 n3 c3 a4 n4 c4:=⟨h.h1,h.h2,h.h3,h.h4,by omega,by omega,by omega,by omega,h.s1,h.s2,h.s3,h.s4⟩
theorem Tryz.cellsMade: Tryz.prog.cellsOf 27=5:=by kernel_rfl
theorem made_open {H:Type}{enc:TypeId×Value→H}{W:World}{b0:Nat}{v:Value}{d:DataW H}{p:List MemPlace}
  (hv:Value.okWide Tryz.prog W .any b0 27 v)(h:DataW.Trod enc Tryz.prog W 0 (fun _=>true) true 27 v d p):
  ∃(D:kAs) (a1:Option Addr) (n1 c1:Nat) (a2:Option Addr) (n2 c2:Nat) (a3:Option Addr) (n3 c3:Nat) (a4:Option Addr) (n4 c4:Nat),v= .agg #[.int .u8 D.rest,.slice a1 n1 c1,.slice a2 n2 c2,.slice a3 n3 c3,.slice a4 n4 c4]∧kKb W D a1 n1 c1 a2 n2 c2 a3 n3 c3 a4 n4 c4:=by
 obtain⟨v0,v1,v2,v3,v4,y0,y1,y2,y3,y4,m,rfl,h0,h1,h2,h3,h4⟩:=kQx Tryz.underlying27 (by kernel_rfl) Tryz.cellsMade hv h;obtain⟨x,e0,_,wx⟩:=DataW.trod_int Tryz.underlying22 h0;simp at e0;subst e0;obtain⟨a1,n1,c1,l1,rfl,p1,q1,m1,s1,w1,z1⟩:=kMq (c8:=0) Tryz.underlying23 Tryz.underlying63 (by kernel_rfl) (by kernel_rfl) Tryz.underlying21 Tryz.underlying21 Tryz.underlying22 h1;obtain⟨a2,n2,c2,l2,rfl,p2,q2,m2,s2,w2,z2⟩:=kMq (c8:=0) Tryz.underlying24 Tryz.underlying66 (by kernel_rfl) (by kernel_rfl) Tryz.underlying21 Tryz.underlying21 Tryz.underlying64 h2;obtain⟨a3,n3,c3,l3,rfl,p3,q3,m3,s3,w3,z3⟩:=kMp Tryz.underlying25 Tryz.underlying68 (by kernel_rfl) (by kernel_rfl) Tryz.underlying21 Tryz.underlying21 h3;obtain⟨a4,n4,c4,l4,rfl,p4,q4,m4,s4,w4,z4⟩:=kMp Tryz.underlying25 Tryz.underlying68 (by kernel_rfl) (by kernel_rfl) Tryz.underlying21 Tryz.underlying21 h4;exact⟨⟨x,l1,l2,l3,l4⟩,a1,n1,c1,a2,n2,c2,a3,n3,c3,a4,n4,c4,rfl,⟨p1,p2,p3,p4,⟨q1,m1⟩,⟨q2,m2⟩,⟨q3,m3⟩,⟨q4,m4⟩,s1,s2,s3,s4,b8 wx,w1,w2,w3,w4,z1,z2,z3,z4⟩⟩
end Go.Proofs.YtbmphakfgoompaaGreat

namespace Go.Proofs.YtbmphakfgoompaaGreat
open Go.RowKit
attribute [local go_sem] Oper.semAt_some
theorem kKb.wf {w:World}{D:kAs}{a1:Option Addr}{n1 c1:Nat}{a2:Option Addr}{n2 c2:Nat}{a3:Option Addr}{n3 c3:Nat}{a4:Option Addr}{n4 c4:Nat}(h:kKb w D a1 n1 c1 a2 n2 c2 a3 n3 c3 a4 n4 c4):kD2 D:=
 ⟨h.r,h.w1,h.w2,h.w3,h.w4⟩
theorem kM2 {c b t m c' b' t' m':Nat→Int}(e:∀r,r≤1114111→c r=c' r∧b r=b' r∧t r=t' r∧m r=m' r)(r:Nat)(hr:r≤1114111):kBu c b t m r=kBu c' b' t' m' r:=by
 have ec:∀x,c (kAi x)=c' (kAi x):=fun x=>(e _ (kBl x)).1
 have eb:∀x,b (kAi x)=b' (kAi x):=fun x=>(e _ (kBl x)).2.1
 have et:∀x,t (kAi x)=t' (kAi x):=fun x=>(e _ (kBl x)).2.2.1
 obtain⟨e1,e2,e3,e4⟩:=e r hr;simp only[kBu,kSk,kDe,kNx,twF,ec,eb,et,e1,e2,e3,e4]
theorem kLw (w:World)(v:Value):Calls Tryz.prog 14 #[.pointer none,.pointer none,v] w fun e w'=>e= .returned (.bool true)∧Below w.heap.size w w':=by
 go_enter Tryz.func14,Tryz.ntmps14
 go_wp2_with fail
 refine(kLc w v).mono ?_;rintro e w1 ⟨rfl,hb⟩
 have HB:=jH hb;clear hb
 go_wp2
 go_ret
 exact⟨rfl,HB.out⟩
end Go.Proofs.YtbmphakfgoompaaGreat

namespace Go.Proofs.YtbmphakfgoompaaGreat
open Go.RowKit
theorem kSd (n:Int):bits .and .i64 n 3=n % 4:=by
 have h3:(BitVec.ofInt 64 3).toNat=2 ^ 2 - 1:=by decide
 have key:(BitVec.ofInt 64 n &&& BitVec.ofInt 64 3).toNat=(n % ((2 ^ 64:Nat):Int)).toNat % 2 ^ 2:=by
  rw[BitVec.toNat_and,BitVec.toNat_ofInt,h3,Nat.and_two_pow_sub_one_eq_mod]
 show IntKind.i64.wrap ((BitVec.ofInt 64 n &&& BitVec.ofInt 64 3).toNat:Nat)=n % 4;rw[key,IntKind.wrap_i64];omega
theorem kO9 (n:Int):bits .and .i32 n 255=n % 256:=by
 have h3:(BitVec.ofInt 32 255).toNat=2 ^ 8 - 1:=by decide
 have key:(BitVec.ofInt 32 n &&& BitVec.ofInt 32 255).toNat=(n % ((2 ^ 32:Nat):Int)).toNat % 2 ^ 8:=by
  rw[BitVec.toNat_and,BitVec.toNat_ofInt,h3,Nat.and_two_pow_sub_one_eq_mod]
 show IntKind.i32.wrap ((BitVec.ofInt 32 n &&& BitVec.ofInt 32 255).toNat:Nat)=n % 256;rw[key,IntKind.wrap_i32];omega
theorem kS5 (n:Int):bits .and .u16 n 3=n % 4:=by
 have h3:(BitVec.ofInt 16 3).toNat=2 ^ 2 - 1:=by decide
 have key:(BitVec.ofInt 16 n &&& BitVec.ofInt 16 3).toNat=(n % ((2 ^ 16:Nat):Int)).toNat % 2 ^ 2:=by
  rw[BitVec.toNat_and,BitVec.toNat_ofInt,h3,Nat.and_two_pow_sub_one_eq_mod]
 show IntKind.u16.wrap ((BitVec.ofInt 16 n &&& BitVec.ofInt 16 3).toNat:Nat)=n % 4;rw[key,IntKind.wrap_u16];omega
def orC:Option Code→Option Code→Option Code
 | some c,_=>some c
 | none,d=>d
def isReg (r:Nat):Code→Bool
 | .region i _ _=>Nat.beq i r
 | _=>false
def isTmp (t:Nat):Operand→Bool
 | .tmp u=>Nat.beq u t
 | _=>false
def kL8 (t:Nat):Code→Option Code
 | .seq a b=>orC (kL8 t a) (kL8 t b)
 | .cond o a b=>match isTmp t o with
  | true=>some a
  | false=>orC (kL8 t a) (kL8 t b)
 | .block _ a=>kL8 t a
 | .loop a=>kL8 t a
 | _=>none
def kMc (r:Nat):Code→Option Code
 | .seq a b=>match isReg r a with
  | true=>some (.seq a b)
  | false=>orC (kMc r a) (kMc r b)
 | .cond _ a b=>orC (kMc r a) (kMc r b)
 | .block _ a=>kMc r a
 | .loop a=>kMc r a
 | _=>none
def kIk (k:Nat):Code→Option Code
 | .seq a b=>orC (kIk k a) (kIk k b)
 | .cond _ a b=>orC (kIk k a) (kIk k b)
 | .block i a=>match Nat.beq i k with
  | true=>some (.block i a)
  | false=>kIk k a
 | .loop a=>kIk k a
 | _=>none
def ptS (S:MkS Int):Pt:=⟨S.top,S.mids.flatten,S.lows.flatten⟩
theorem kSi {f:Nat→Int}{S:MkS Int}(h:Made8 f S):(ptS S).ok8∧∀r,r≤1114111→(ptS S).at8 r=f r:=by
 obtain⟨h1,h2⟩:=h.fromOk;refine⟨h1,fun r hr=> ?_⟩;obtain⟨h3,h4⟩:=fromOk_made 17408 rfl h1;have h5:=h3.look r hr;rw[←h4,h2,h.look r hr]at h5;exact h5.symm
theorem kLf {f:Nat→Int}{S:MkS Int}(h:VJ.Made8 f S):(ptS S).okJ∧∀r,r≤1114111→(ptS S).atJ r=f r:=by
 obtain⟨h1,h2⟩:=h.fromOk;refine⟨h1,fun r hr=> ?_⟩;obtain⟨h3,h4⟩:=VJ.fromOk_made 17408 rfl h1;have h5:=h3.look r hr;rw[←h4,h2,h.look r hr]at h5;exact h5.symm
theorem kTr (f:Nat→Int)(M:Nat)(hM:M=17408):VJ.Made8 f (mkF f M):=by
 have:=VJ.made8 f M hM;rwa[kTs]at this
theorem kR5 (F:Nat→Nat→Int)(r:Nat):kR4 (F 0) (F 1) (F 2) (F 3) r=kKf F 4 r:=by
 show _=((((false||kGx 0 (F 0 r))||kGx 1 (F 1 r))||kGx 2 (F 2 r))||kGx 3 (F 3 r));rw[Bool.eq_iff_iff];simp[kR4,kGx,kDo,kRy,kE5,kNm,kH1]
theorem kOw {c b t m c' b' t' m':Nat→Int}{r:Nat}(e:c r=c' r∧b r=b' r∧t r=t' r∧m r=m' r):kR4 c b t m r=kR4 c' b' t' m' r:=by
 obtain⟨e1,e2,e3,e4⟩:=e;simp only[kR4,e1,e2,e3,e4]
theorem kTe (w:World)(s0 s1 s2 s3 s4 s5 s6 s7 s8 s9 s10 s11:Value)(C Bk T M:Pt)(hC:P8 w s0 s1 s2 C.top C.mid C.low)(hB:PJ w s3 s4 s5 Bk.top Bk.mid Bk.low)(hT:PJ w s6 s7 s8 T.top T.mid T.low)(hM:PJ w s9 s10 s11 M.top M.mid M.low):
  Calls Tryz.prog 11 #[.agg #[s0,s1,s2,s3,s4,s5,s6,s7,s8,s9,s10,s11]] w fun e w'=>kKz w C Bk T M e w':=
 kQz w (fun i=>[s0,s1,s2,s3,s4,s5,s6,s7,s8,s9,s10,s11].get i) C Bk T M hC hB hT hM
theorem kSn {B:Nat}{w:World}{s:Array Value}{F:Nat→Nat→Int}{M:Nat}(hM:M=17408)(h:Ow4 B w s F M):
  Calls Tryz.prog 11 #[.agg s] w fun e w'=>kKz w (ptS (mkF (F 0) M)) (ptS (mkF (F 1) M)) (ptS (mkF (F 2) M)) (ptS (mkF (F 3) M)) e w':=by
 obtain⟨s0,s1,s2,s3,s4,s5,s6,s7,s8,s9,s10,s11,rfl,o1,o2,o3,o4⟩:=h
 have k:=fun j:Nat=>(made8 (F j) M hM).trie
 exact kTe w s0 s1 s2 s3 s4 s5 s6 s7 s8 s9 s10 s11 _ _ _ _ (o1.p8 (k 0)) (o2.pJ (k 1)) (o3.pJ (k 2)) (o4.pJ (k 3))
theorem kKz.shape {w:World}{C Bk T M:Pt}{e:Ending}{w':World}(h:kKz w C Bk T M e w'):∃x r u,e= .returned (.tuple #[x,.int .i32 r,.int .i64 u]):=by
 obtain⟨-,⟨rfl, -⟩ | ⟨-,k, -,⟨-,rfl⟩ | ⟨-,p,q, -,rfl, -⟩⟩⟩:=h
 ·exact⟨_,_,_,rfl⟩
 ·exact⟨_,_,_,rfl⟩
 ·unfold kEy
  split<;>exact⟨_,_,_,rfl⟩
def OvOk (w:World) (B:Nat) (F:Nat→Nat→Int) (f x y:Value):Prop:=
 (x= .pointer none∧y= .pointer none)∨∃p q,x= .pointer (some ⟨p,0,none⟩)∧y= .pointer (some ⟨q,0,none⟩)∧kFc w p (F 0) (F 1) (F 2) (F 3) B∧B≤q∧(∃cs:Array Value,f= .agg cs∧w.heap[q]? =some (.cells cs 111 (0,0)))∧kL0 F
theorem kNz {x x':Value}{r r' u u':Int}(h:Ending.returned (.tuple #[x,.int .i32 r,.int .i64 u])= .returned (.tuple #[x',.int .i32 r',.int .i64 u'])):x=x'∧r=r'∧u=u':=by
 simpa using h
theorem kQy {w w1 w2:World}{F:Nat→Nat→Int}{M:Nat}(hM:M=17408){f x:Value}{r u:Int}{e:Ending}{k1 k2:Nat}(hk1:kBd (kKf F 4) 1114112 k1)(hk2:kBd (kBu (F 0) (F 1) (F 2) (F 3)) 1114112 k2)
  (h1:kKz w (ptS (mkF (F 0) M)) (ptS (mkF (F 1) M)) (ptS (mkF (F 2) M)) (ptS (mkF (F 3) M)) (.returned (.tuple #[x,.int .i32 r,.int .i64 u])) w1)(h2:kS7 w1 f F k1 k2 e w2):
  Below w1.heap.size w1 w2∧∃y,e= .returned (.tuple #[y,.int .i32 r,.int .i64 u])∧OvOk w2 w.heap.size F f x y:=by
 obtain⟨hb1,h1⟩:=h1;obtain⟨hb2,h2⟩:=h2;refine⟨hb2,?_⟩;obtain⟨a1,a2⟩:=kSi (made8 (F 0) M hM);obtain⟨b1,b2⟩:=kLf (kTr (F 1) M hM);obtain⟨c1,c2⟩:=kLf (kTr (F 2) M hM);obtain⟨d1,d2⟩:=kLf (kTr (F 3) M hM)
 have hE:∀r,r≤1114111→(ptS (mkF (F 0) M)).at8 r=F 0 r∧(ptS (mkF (F 1) M)).atJ r=F 1 r∧(ptS (mkF (F 2) M)).atJ r=F 2 r∧(ptS (mkF (F 3) M)).atJ r=F 3 r:=fun r hr=>⟨a2 r hr,b2 r hr,c2 r hr,d2 r hr⟩
 rcases h1 with⟨-,hn⟩ | ⟨-,k,hk,h1⟩
 ·exact absurd ⟨a1,b1,c1,d1⟩ hn
 ·obtain rfl:=hk.unique (hk1.congr (fun r hr=>((kOw (hE r (by omega))).trans (kR5 F r)).symm))
  rcases h1 with⟨h3,e1⟩ | ⟨h3,p,q,hq,e1,hT⟩
  ·obtain⟨rfl,rfl,rfl⟩:=kNz e1
   rcases h2 with⟨-,rfl⟩ | ⟨h4, -⟩ | ⟨h4, -⟩
   ·exact⟨_,rfl,.inl ⟨rfl,rfl⟩⟩
   ·exact absurd h3 h4
   ·exact absurd h3 h4
  ·obtain rfl:=hq.unique (hk2.congr (fun r hr=>(kM2 hE r (by omega)).symm))
   rcases h2 with⟨h4, -⟩ | ⟨-,h4,rfl⟩ | ⟨-,h4,q,rfl,hd,hq,cs,hcs,hrow⟩
   ·omega
   ·rw[show kEy p q= .tuple #[.pointer none,.int .i32 (q:Nat),.int .i64 141]from if_pos h4]at e1;obtain⟨rfl,rfl,rfl⟩:=kNz e1;exact⟨_,rfl,.inl ⟨rfl,rfl⟩⟩
   ·rename_i q0 _
    rw[show kEy p q0= .tuple #[.pointer (some ⟨p,0,none⟩),.int .i32 0,.int .i64 0]from if_neg h4]at e1;obtain⟨rfl,rfl,rfl⟩:=kNz e1;exact⟨_,rfl,.inr ⟨p,q,rfl,rfl,(hT.congr hE).below hb2,Nat.le_trans hb1.size hq,⟨cs,hcs,hrow⟩,kQi (fun r hr=>hk1.no r (by omega))⟩⟩
theorem kHk {val:Int→Value}{ty:TypeId}{n:Nat}{W W':World}{g B:Nat}{T:kAp Int}(h:kAu val ty n W g T)(hf:TrieFar ty W g T B)(hk:∀x,B≤x→x<W.heap.size→W'.heap[x]? =W.heap[x]?):kAu val ty n W' g T∧TrieFar ty W' g T B:=by
 obtain⟨am,cm,al,cl,h1,h2,h3⟩:=h;obtain⟨h0,am',cm',al',cl',k1,k2,k3⟩:=hf;have e:=h1.symm.trans k1;simp only[Option.some.injEq,Obj.cells.injEq,List.toArray_inj,and_true,true_and,kEi]at e;have e2:=List.append_cancel_left (congrArg Array.toList e);simp only[List.cons.injEq,Value.slice.injEq,true_and,and_true]at e2;obtain⟨⟨rfl,rfl⟩,rfl,rfl⟩:=e2;have hblk:W'.heap[g]? =some (.cells (kEi T am cm al cl).toArray ty (0,0)):=(hk g h0 (jL h1)).trans h1
 have hr:∀(x o:Nat) (cs:List Value),B≤x→W.rangeAt x o cs→W'.rangeAt x o cs:=fun x o cs hx hc j v hv=>by
  have h9:=hc j v hv;rw[World.cell?_of_block (w:=W) (a:=⟨x,o+j,none⟩) (hk x hx (World.block_lt_of_cell? W _ h9))];exact h9
 refine⟨⟨am,cm,al,cl,hblk,fun i hi=> ?_,fun i hi=> ?_⟩,h0,am,cm,al,cl,hblk,k2,k3⟩
 ·obtain⟨x,o,e,hc⟩:=h2 i hi;exact⟨x,o,e,hr x _ _ (k2 _ e) hc⟩
 ·obtain⟨x,o,e,hc⟩:=h3 i hi;exact⟨x,o,e,hr x _ _ (k3 _ e) hc⟩
theorem kFc.move {w w':World}{p B:Nat}{c b t m:Nat→Int}(h:kFc w p c b t m B)(hk:∀x,B≤x→x<w.heap.size→w'.heap[x]? =w.heap[x]?):kFc w' p c b t m B:=by
 obtain⟨gc,gb,gt,gm,SC,SB,ST,SM,h1,h2,h3,h4,h5,h6,h7,h8,h9,h10⟩:=h;have k7:=kHk h1.mem.atC h7 hk;have k8:=kHk h1.mem.atB h8 hk;have k9:=kHk h1.mem.atT h9 hk;have k10:=kHk h1.mem.atM h10 hk;exact⟨gc,gb,gt,gm,SC,SB,ST,SM,⟨⟨(hk p h6 (jL h1.mem.row)).trans h1.mem.row,h1.mem.okC,h1.mem.okB,h1.mem.okT,h1.mem.okM,h1.mem.posC,h1.mem.posB,h1.mem.posT,h1.mem.posM,k7.1,k8.1,k9.1,k10.1⟩,h1.c,h1.b,h1.t,h1.m⟩,h2,h3,h4,h5,h6,k7.2,k8.2,k9.2,k10.2⟩
theorem OvOk.walk {w:World}{B:Nat}{F:Nat→Nat→Int}{f x y:Value}(h:OvOk w B F f x y){W:World}(hk:∀g,B≤g→g<w.heap.size→W.heap[g]? =w.heap[g]?)(hf:kBf W f F)(M:Nat)(hM:M=17408)(a:Option Addr)(n c:Nat)(zs:List Int)(hl:zs.length=n)(hn:n≤maxLen)(hz:Ints .i32 W a zs)(hzb:∀z∈zs,wf32 z):
  Calls Tryz.prog 14 #[x,y,.slice a n c] W fun e w'=>e= .returned (.bool true)∧Below W.heap.size W w':=by
 rcases h with⟨rfl,rfl⟩ | ⟨p,q,rfl,rfl,h1,h2,⟨cs,rfl,h3⟩,h4⟩
 ·exact kLw W _
 ·exact kN0 W p q B M hM F (h1.move hk) ⟨cs,(hk q h2 (jL h3)).trans h3,hf⟩ h4 a n c zs hl hn hz hzb
theorem Any.ty {s B:Nat}{E:TypeId}{w:World}{g n c:Nat}(h:Any s B E w (some ⟨g,0,none⟩) n c):∃cur,w.heap[g]? =some (.cells cur E (0,0)):=by
 obtain⟨xs,h⟩:=h
 rcases h.2 with⟨e, -⟩ | ⟨g1,c1,u1,e, -,z1, -⟩
 ·cases e
 ·simp only[Value.slice.injEq,Option.some.injEq,Addr.mk.injEq,and_true]at e;rw[e.1];exact⟨u1,z1⟩
def Ch (g k:Nat) (u:Value) (W W':World):Prop:=(∀x,x<W.heap.size→x≠g→W'.heap[x]? =W.heap[x]?)∧∀cur ty,W.heap[g]? =some (.cells cur ty (0,0))→W'.heap[g]? =some (.cells (cur.setIfInBounds k u) ty (0,0))
theorem Own.ch {B:Nat}{E:TypeId}{W W':World}{a:Option Addr}{n c:Nat}{xs:List Value}(h:Own B E W a n c xs){g k:Nat}{u:Value}(hc:Ch g k u W W'):Own B E W' a n c xs∨(a=some ⟨g,0,none⟩∧(∃cur,W.heap[g]? =some (.cells cur E (0,0)))∧Own B E W' a n c (xs.set k u)):=by
 obtain⟨hl,h0 | ⟨q,cap,cur,e,hb,hg,hnc,hcm,hsz,ht⟩⟩:=h
 ·exact .inl ⟨hl,.inl h0⟩
 ·by_cases e2:q=g
  ·subst e2;simp only[Value.slice.injEq]at e;obtain⟨rfl, -,rfl⟩:=e;refine .inr ⟨rfl,⟨cur,hg⟩,by rw[List.length_set];exact hl,.inr ⟨q,c,_,rfl,hb,hc.2 cur E hg,hnc,hcm,by simpa using hsz,?_⟩⟩;rw[Array.toList_setIfInBounds,List.take_set,ht]
  ·exact .inl ⟨hl,.inr ⟨q,cap,cur,e,hb,(hc.1 q (jL hg) e2).trans hg,hnc,hcm,hsz,ht⟩⟩
end Go.Proofs.YtbmphakfgoompaaGreat
