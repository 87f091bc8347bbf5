/- several texts in one: F1 F2 -/
import Derived.Test.YtabbabkmojaoaaaNF
import Derived.Test.YtabbabkmojaoaaaRows
import Derived.ProofKit
import Derived.OpenShut
import Derived.ShutString
import Derived.ChangeOld
import Derived.JoinedCond
import Derived.Lib.SmallJoins
set_option linter.unusedVariables false
set_option linter.unusedSimpArgs false
set_option maxRecDepth 100000
set_option maxHeartbeats 16000000
set_option maxRecDepth 100000
namespace Go.Proofs.Ytabbabkmojaoaaa
open Go.ChangeShapes Go.WideShapes Go.ChangeAt Go.RowKit Go.Joins
theorem kJp {H:Type}(d:DataW H):1≤Rows.uptoBulk d:=by
 cases d with
 | lit l=>cases l<;>simp[Rows.uptoBulk]
 | _=>simp[Rows.uptoBulk]
theorem kMo {H:Type}(l:List (DataW H)):l.length≤Rows.uptoBulkAll l:=by
 induction l with
 | nil=>simp[Rows.uptoBulkAll]
 | cons x r ih=>have:=kJp x;simp only[Rows.uptoBulkAll,List.length_cons];omega
theorem kJh {H:Type}(elems spare:List (DataW H)):elems.length+1≤Rows.uptoBulk (.slice elems spare):=by
 have h1:=kMo elems;simp only[Rows.uptoBulk];omega
theorem row_open {H:Type}{enc:TypeId×Value→H}{W:World}{b0:Nat}{t e:TypeId}{k:IntKind}{v:Value}{d:DataW H}{p:List MemPlace}
  (ht: Try.prog.underlying t=some (.slice e))(he: Try.prog.underlying e=some (.int k))(hc: Try.prog.cellsOf e=1)
  (hv:Value.okWide Try.prog W .any b0 t v)(h:DataW.Trod enc Try.prog W 0 (fun _=>true) true t v d p):
  ∃a len cap zs,v= .slice a len cap∧IsRow k W a len cap zs∧len+1≤Rows.uptoBulk d:=by
 obtain⟨a,len,cap,rfl⟩:=okWide_slice ht hv;obtain⟨fuel,hf⟩:=h
 rcases open_ints ht he hc hf with⟨hcs,hx⟩ | ⟨x,l,c,zs,hcs,_,hl,hm,hz,hx,hcell,hwz⟩
 ·simp[Value.cells]at hcs;obtain⟨rfl,rfl,rfl⟩:=hcs;exact⟨none,0,0,[],rfl,.inl ⟨rfl,rfl,rfl,rfl⟩,kJp d⟩
 ·simp[Value.cells]at hcs;obtain⟨rfl,rfl,rfl⟩:=hcs
  have hz':zs.length=cap:=by simpa using hz
  refine⟨some x,len,cap,zs,rfl,.inr ⟨_,rfl,hl,hm,hz',hcell,hwz⟩,?_⟩;obtain rfl:d= .slice (lits k (zs.take len)) (lits k (zs.drop len)):=congrArg Prod.fst hx;have:=kJh (lits (H:=H) k (zs.take len)) (lits k (zs.drop len))
  have hl2:(lits (H:=H) k (zs.take len)).length=len:=by simp[lits];omega
  omega
end Go.Proofs.Ytabbabkmojaoaaa

set_option maxRecDepth 100000
namespace Go.Proofs.Ytabbabkmojaoaaa
open Go.ChangeShapes Go.WideShapes Go.ChangeAt Go.RowKit Go.Joins Go.Deep
theorem b32 {x:Int}(h:(Lit.int .i32 x).wf=true): -2147483648≤x∧x≤2147483647:=by
 simpa [Lit.wf,IntKind.min,IntKind.max,IntKind.signed,IntKind.bits]using h
theorem b8 {x:Int}(h:(Lit.int .u8 x).wf=true):0≤x∧x≤255:=by
 simpa [Lit.wf,IntKind.min,IntKind.max,IntKind.signed,IntKind.bits]using h
theorem kIo {H:Type}{enc:TypeId×Value→H}{P:Program}{w:World}{b0:Nat}{sp:Nat→Bool}{held:Bool}{e:TypeId}{fs:Array Field}{n:Nat}{a:Addr}{o:Nat}{cs:List Value}{x:DataW H×List MemPlace}
  (he:P.underlying e=some (.struct fs))(hone:oneCellFields P fs=true)(hC:P.cellsOf e=fs.size)(hc:w.cells? b0 (a.add o) (P.cellsOf e)=some cs)(h:DataW.trod enc P w b0 sp held n e cs=some x):
  ∀(j:Nat) (f:Field),fs[j]? =some f→∃(v:Value) (y:DataW H×List MemPlace) (n':Nat),w.cell? (a.add (o+j))=some v∧DataW.trod enc P w b0 sp held n' f.type [v]=some y:=by
 obtain⟨_,hl,hat⟩:=World.cells?_some hc;obtain⟨xs,n',_,_,_,hxl,hf⟩:=DataW.trod_struct he h;intro j f hj;have hjl:j<fs.size:=(Array.getElem?_eq_some_iff.1 hj).1
 have hjc:j<cs.length:=by omega
 obtain⟨ho,hk⟩:=Deep.hone_of hone j f hj;have h1:=hf j f hj;rw[ho,hk,show(cs.drop j).take 1=[cs[j]] by rw[List.drop_eq_getElem_cons hjc];rfl,List.getElem?_eq_getElem (show j<xs.length by omega)]at h1;refine⟨cs[j],_,n',?_,h1⟩;have h2:=hat j (by omega);rw[List.getElem?_eq_getElem hjc,Go.Deep.add_add]at h2;exact h2
theorem kJ7 {Q:Nat→SpanD→Prop}(n:Nat)(h:∀i,i<n→∃c,Q i c):∃cs:List SpanD,cs.length=n∧∀i (hi:i<cs.length),Q i cs[i]:=by
 induction n with
 | zero=>exact⟨[],rfl,fun i hi=>absurd hi (by simp)⟩
 | succ n ih=>
  obtain⟨cs,hl,hq⟩:=ih (fun i hi=>h i (by omega));obtain⟨c,hc⟩:=h n (by omega);refine⟨cs++[c],by simp[hl],fun i hi=> ?_⟩
  by_cases hin:i<cs.length
  ·rw[List.getElem_append_left hin];exact hq i hin
  ·have:i=n:=by simp at hi;omega
   subst this;subst hl;rw[List.getElem_concat_length rfl];exact hc
def spanW (s:SpanD):Prop:= -2147483648≤s.f∧s.f≤2147483647∧ -2147483648≤s.t∧s.t≤2147483647∧0≤s.v∧s.v≤255
theorem Try.cellsSpan: Try.prog.cellsOf 24=3:=by kernel_rfl
theorem spans_open {H:Type}{enc:TypeId×Value→H}{W:World}{b0:Nat}{v:Value}{d:DataW H}{p:List MemPlace}
  (hv:Value.okWide Try.prog W .any b0 22 v)(h:DataW.Trod enc Try.prog W 0 (fun _=>true) true 22 v d p):
  ∃a len cap rs,v= .slice a len cap∧(rs.length=len∧SpansAt W a rs∧(a=none→cap=0))∧(∀s∈rs,spanW s)∧len+1≤Rows.uptoBulk d:=by
 obtain⟨a0,len0,cap0,rfl⟩:=okWide_slice Try.underlying22 hv;obtain⟨fuel,hf⟩:=h
 rcases Deep.open_slice Try.underlying22 hf with⟨hcs,hx⟩ | ⟨a,len,cap,m,n',D,Pl,hcs,_,hlc,hcm,hm,hx,hel⟩
 ·simp[Value.cells]at hcs;obtain⟨rfl,rfl,rfl⟩:=hcs;exact⟨none,0,0,[],rfl,⟨rfl,fun i hi=>absurd hi (by simp),fun _=>rfl⟩,(fun p hp=>by cases hp),kJp d⟩
 ·simp[Value.cells]at hcs;obtain⟨rfl,rfl,rfl⟩:=hcs
  have hm':m=cap0:=by simpa using hm
  have hsp:0<len0→a.spot=none:=by
   intro hi;obtain⟨cs',hc,ht⟩:=hel 0 (by omega);rw[Try.cellsSpan]at hc;obtain⟨v0,y0,n0,k0,t0⟩:=kIo Try.underlying24 (by kernel_rfl) Try.cellsSpan (by rw[Try.cellsSpan];exact hc) ht 0 _ rfl
   simpa [Addr.add]using World.cell?_spot k0
  have hch:∀i,i<len0→∃c:SpanD,spanW c∧∃b o,some a=some ⟨b,o,none⟩∧W.cell? ⟨b,o+i*3,none⟩=some (.int .i32 c.f)∧W.cell? ⟨b,o+i*3+1,none⟩=some (.int .i32 c.t)∧W.cell? ⟨b,o+i*3+2,none⟩=some (.int .u8 c.v):=by
   intro i hi;have hsp:=hsp (by omega);obtain⟨cs',hc,ht⟩:=hel i (by omega);rw[Try.cellsSpan]at hc;have hf:=kIo Try.underlying24 (by kernel_rfl) Try.cellsSpan (by rw[Try.cellsSpan];exact hc) ht;obtain⟨v0,y0,n0,k0,t0⟩:=hf 0 _ rfl;obtain⟨v1,y1,n1,k1,t1⟩:=hf 1 _ rfl;obtain⟨v2,y2,n2,k2,t2⟩:=hf 2 _ rfl;obtain⟨x0,e0,_,w0⟩:=DataW.trod_int Try.underlying21 t0;obtain⟨x1,e1,_,w1⟩:=DataW.trod_int Try.underlying21 t1;obtain⟨x2,e2,_,w2⟩:=DataW.trod_int Try.underlying5 t2;simp at e0 e1 e2;subst e0 e1 e2;obtain⟨b,o,sp⟩:=a;simp only at hsp;subst hsp;simp only[Addr.add_lit,Nat.add_zero,←Nat.add_assoc]at k0 k1 k2;exact⟨⟨x0,x1,x2⟩,⟨(b32 w0).1,(b32 w0).2,(b32 w1).1,(b32 w1).2,(b8 w2).1,(b8 w2).2⟩,b,o,rfl,k0,k1,k2⟩
  obtain⟨chs,hl,hq⟩:=kJ7 len0 hch
  refine⟨some a,len0,cap0,chs,rfl,⟨hl,fun i hi=>(hq i hi).2,fun e=>by cases e⟩,fun p hp=> ?_,?_⟩
  ·obtain⟨i,hi,rfl⟩:=List.mem_iff_getElem.1 hp;exact(hq i hi).1
  obtain rfl:=congrArg Prod.fst hx;have:=kJh ((List.range len0).map D) ((List.range (m - len0)).map fun j=>D (len0+j))
  simpa using this
end Go.Proofs.Ytabbabkmojaoaaa
