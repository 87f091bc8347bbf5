/- several texts in one: LB LP SN8 -/
import Derived.Test.YtabbabkmojaoaaaNP
import Derived.Test.YtabbabkmojaoaaaNF
import Derived.Lib.QuietBelow
import Derived.Test.YtabbabkmojaoaaaND
import Derived.Deep.QuietTactic
set_option linter.unusedVariables false
set_option linter.unusedSimpArgs false
set_option maxRecDepth 100000
set_option maxHeartbeats 16000000
namespace Go.Proofs.Ytabbabkmojaoaaa
open Go.RowKit
theorem kBo {w w':World}{B:Nat}{a:Option Addr}{xs:List Value}(h:kEz w a xs)(hb:Below B w w')(hB:w.heap.size≤B):kEz w' a xs:=by
 intro i hi;obtain⟨b,o,rfl,hc⟩:=h i hi;have hl:=World.block_lt_of_cell? w _ hc;exact⟨b,o,rfl,by rw[hb.cell (p:=⟨b,o+i,none⟩) (by simp at hl ⊢;omega)];exact hc⟩
end Go.Proofs.Ytabbabkmojaoaaa

namespace Go.Proofs.Ytabbabkmojaoaaa
open Go.RowKit
section
variable {α : Type}
def toS (of:Int→α):Int→List (Int×Int)→List (kA2 α)
 | _,[]=>[]
 | p,x :: A=>⟨(p+1).toNat,x.1.toNat,of x.2⟩ :: toS of x.1 A
def kGi:Int→List (Int×Int)→Int
 | p,[]=>p
 | _,x :: A=>kGi x.1 A
theorem kJ0 (of:Int→α)(x:Int×Int):∀(A:List (Int×Int)) (p:Int),toS of p (A++[x])=toS of p A++[⟨(kGi p A+1).toNat,x.1.toNat,of x.2⟩]
 | [],p=>rfl
 | y :: A,p=>by
  rw[List.cons_append,toS,toS,kJ0 of x A y.1]
  rfl
theorem kJ4 (x:Int×Int):∀(A:List (Int×Int)) (p:Int),kGi p (A++[x])=x.1
 | [],p=>rfl
 | y :: A,p=>by rw[List.cons_append,kGi,kJ4 x A y.1]
theorem kCa (of:Int→α):∀(A:List (Int×Int)) (p:Int),(toS of p A).length=A.length
 | [],_=>rfl
 | x :: A,p=>by rw[toS,List.length_cons,List.length_cons,kCa of A x.1]
theorem kHe (of:Int→α):∀(A:List (Int×Int)) (p:Int) (i:Nat) (h:i<A.length),(toS of p A)[i]? =some ⟨(kGi p (A.take i)+1).toNat,(A[i]).1.toNat,of (A[i]).2⟩
 | [],_,i,h=>by simp at h
 | x :: A,p,0,h=>rfl
 | x :: A,p,i+1,h=>by
  rw[toS,List.getElem?_cons_succ,kHe of A x.1 i (by simpa using h)]
  rfl
theorem kMh {ne:α→α→Bool}{f:Nat→α}{F:Nat→Int}{of:Int→α}(N:Nat)(hne:∀a b,ne a b=true↔a≠b)(hinj:∀r s,r<N→s<N→of (F r)=of (F s)→F r=F s)(hf:∀r,r<N→f r=of (F r)):∀n,n≠0→n≤N→
  ∃A,kAt F n=A++[(((n - 1:Nat):Int),F (spT ne f n).2)]∧(spT ne f n).1=toS of (-1) A∧((spT ne f n).2:Int)=kGi (-1) A+1
 | 0,h,_=>absurd rfl h
 | n+1,_,hn=>by
  by_cases h0:n=0
  ·subst h0
   refine⟨[],?_,?_,?_⟩
   ·rw[kFn];rfl
   ·rw[kFn];rfl
   ·rw[kFn];rfl
  ·obtain⟨A,h1,h2,h3⟩:=kMh N hne hinj hf n h0 (by omega);have hlt:=kKe ne f n h0
   obtain⟨s,hs⟩:∃s,s=(spT ne f n).2:=⟨_,rfl⟩
   rw[←hs]at h1 h3 hlt;have hrl:kAt F (n+1)=kF0 (kAt F n) (n:Nat) (F n):=rfl
   by_cases hc:ne (f n) (f (spT ne f n).2)=true
   ·have hne2:f n≠f s:=by rw[hs];exact(hne _ _).1 hc
    have hF:F s≠F n:=fun e=>hne2 (by rw[hf n (by omega),hf s (by omega),e])
    rw[kHd h0 hc]
    refine⟨A++[(((n - 1:Nat):Int),F s)],?_,?_,?_⟩
    ·rw[hrl,h1];unfold kF0;simp[hF]
    ·rw[kJ0,h2,←hs,hf s (by omega)];rw[←h3];simp
    ·rw[kJ4];simp;omega
   ·have hne2:f n=f s:=by
     rw[hs]
     exact Classical.byContradiction fun h=>hc ((hne _ _).2 h)
    have hF:F s=F n:=(hinj s n (by omega) (by omega) (by rw[←hf s (by omega),←hf n (by omega),hne2]))
    rw[kJl h0 hc,←hs];refine⟨A,?_,h2,h3⟩;rw[hrl,h1];unfold kF0;simp[hF]
theorem kJx {ne:α→α→Bool}{f:Nat→α}{F:Nat→Int}{of:Int→α}(N:Nat)(hN:N≠0)(hne:∀a b,ne a b=true↔a≠b)(hinj:∀r s,r<N→s<N→of (F r)=of (F s)→F r=F s)(hf:∀r,r<N→f r=of (F r)):spL ne f N=toS of (-1) (kAt F N):=by
 obtain⟨A,h1,h2,h3⟩:=kMh N hne hinj hf N hN jR;have hlt:=kKe ne f N hN;rw[h1,kJ0,←h2];unfold spL;rw[←h3,hf _ hlt];simp
theorem kE8 (F:Nat→Int):∀n,List.Pairwise (fun a b:Int×Int=>a.1<b.1) (kAt F n)∧∀x∈kAt F n,0≤x.1
 | 0=>⟨List.Pairwise.nil,fun x h=>by simp[kAt]at h⟩
 | n+1=>by
  obtain⟨h1,h2⟩:=kE8 F n;have hlt:=kF8 F n;rw[kAt]
  rcases kG3 (kAt F n) (n:Nat) (F n)with⟨y,e1,e2,e3⟩ | e3
  ·rw[e3];rw[e1]at h1
   refine⟨List.pairwise_append.2 ⟨(List.pairwise_append.1 h1).1,by simp,fun a ha b hb=> ?_⟩,fun x hx=> ?_⟩
   ·rw[List.mem_singleton.1 hb];exact hlt a (List.dropLast_subset _ ha)
   ·rcases List.mem_append.1 hx with hx | hx
    ·exact h2 x (List.dropLast_subset _ hx)
    ·rw[List.mem_singleton.1 hx];simp only;omega
  ·rw[e3]
   refine⟨List.pairwise_append.2 ⟨h1,by simp,fun a ha b hb=> ?_⟩,fun x hx=> ?_⟩
   ·rw[List.mem_singleton.1 hb];exact hlt a ha
   ·rcases List.mem_append.1 hx with hx | hx
    ·exact h2 x hx
    ·rw[List.mem_singleton.1 hx];simp only;omega
theorem kCn:∀(A:List (Int×Int)) (p:Int) (i:Nat) (h:i<A.length),kGi p (A.take (i+1))=(A[i]).1
 | [],_,i,h=>by simp at h
 | x :: A,p,0,h=>rfl
 | x :: A,p,i+1,h=>by
  rw[List.take_succ_cons,kGi,kCn A x.1 i (by simpa using h)]
  rfl
end
theorem kFz (w:World)(c0 c1:Array Value)(t0 t1:TypeId):Below w.heap.size w ((w.alloc (.cells c0 t0)).alloc (.cells c1 t1))∧((w.alloc (.cells c0 t0)).alloc (.cells c1 t1)).heap[w.heap.size]? =some (.cells c0 t0 (0,0))∧
  ((w.alloc (.cells c0 t0)).alloc (.cells c1 t1)).heap[w.heap.size+1]? =some (.cells c1 t1 (0,0))∧((w.alloc (.cells c0 t0)).alloc (.cells c1 t1)).heap.size=w.heap.size+2:=by
 refine⟨((Below.refl _ w).alloc jR _).alloc (by simp) _,?_,?_,by simp⟩
 ·rw[Below.heap_alloc _ _ _ (by simp)];exact jN w _
 ·have:=jN (w.alloc (.cells c0 t0)) (.cells c1 t1)
  simpa using this
theorem kGq {F:Nat→Int}:∀ {n:Nat} {x:Int×Int},x∈kAt F n→∃r,r<n∧x.2=F r
 | 0,x,h=>by simp[kAt]at h
 | n+1,x,h=>by
  rw[kAt]at h
  rcases kG3 (kAt F n) (n:Nat) (F n)with⟨y,e1,e2,e3⟩ | e3
  ·rw[e3]at h
   rcases List.mem_append.1 h with h | h
   ·obtain⟨r,h1,h2⟩:=kGq (List.dropLast_subset _ h);exact⟨r,by omega,h2⟩
   ·exact⟨n,by omega,by rw[List.mem_singleton.1 h]⟩
  ·rw[e3]at h
   rcases List.mem_append.1 h with h | h
   ·obtain⟨r,h1,h2⟩:=kGq h;exact⟨r,by omega,h2⟩
   ·exact⟨n,by omega,by rw[List.mem_singleton.1 h]⟩
theorem kHz (w:World)(c0 c1 c2 c3:Array Value)(t0 t1 t2 t3:TypeId):Below w.heap.size w ((((w.alloc (.cells c0 t0)).alloc (.cells c1 t1)).alloc (.cells c2 t2)).alloc (.cells c3 t3))∧((((w.alloc (.cells c0 t0)).alloc (.cells c1 t1)).alloc (.cells c2 t2)).alloc (.cells c3 t3)).heap[w.heap.size]? =some (.cells c0 t0 (0,0))∧
  ((((w.alloc (.cells c0 t0)).alloc (.cells c1 t1)).alloc (.cells c2 t2)).alloc (.cells c3 t3)).heap[w.heap.size+1]? =some (.cells c1 t1 (0,0))∧((((w.alloc (.cells c0 t0)).alloc (.cells c1 t1)).alloc (.cells c2 t2)).alloc (.cells c3 t3)).heap[w.heap.size+2]? =some (.cells c2 t2 (0,0))∧
  ((((w.alloc (.cells c0 t0)).alloc (.cells c1 t1)).alloc (.cells c2 t2)).alloc (.cells c3 t3)).heap[w.heap.size+3]? =some (.cells c3 t3 (0,0))∧((((w.alloc (.cells c0 t0)).alloc (.cells c1 t1)).alloc (.cells c2 t2)).alloc (.cells c3 t3)).heap.size=w.heap.size+4:=by
 refine⟨((((Below.refl _ w).alloc jR _).alloc (by simp) _).alloc (by simp;omega) _).alloc (by simp;omega) _,?_,?_,?_,?_,by simp⟩
 ·rw[Below.heap_alloc _ _ _ (by simp;omega),Below.heap_alloc _ _ _ (by simp;omega),Below.heap_alloc _ _ _ (by simp)];exact jN w _
 ·rw[Below.heap_alloc _ _ _ (by simp),Below.heap_alloc _ _ _ (by simp)];have:=jN (w.alloc (.cells c0 t0)) (.cells c1 t1)
  simpa using this
 ·rw[Below.heap_alloc _ _ _ (by simp)];have:=jN ((w.alloc (.cells c0 t0)).alloc (.cells c1 t1)) (.cells c2 t2)
  simpa using this
 ·have:=jN (((w.alloc (.cells c0 t0)).alloc (.cells c1 t1)).alloc (.cells c2 t2)) (.cells c3 t3)
  simpa using this
section
variable {F : Fence} {n : Nat} {P : Program}
theorem kB3 {id:Nat}{Q:Exit→Act→World→Prop}{a:Act}{w:World}{l:List Oper}(hro:l.all kH1=true)(hm:P.follows .mixedOrders=true)(hB:Region.lexB .any l.toArray=true)
  (h:wpQuietIn F n P l.toArray (fun w'=>∃p:Regrown,w'=Go.Sort.grow (redrawn w p.d) p.os) (fun a'=>∀w',(∃p:Regrown,w'=Go.Sort.grow (redrawn w p.d) p.os)→Q .normal a' w') l a):(Code.region id l.toArray true).wpIn F n P Q a w:=by
 simp only[Region.lexB,Bool.and_eq_true]at hB
 refine wpIn_region_any hm (kF1 (C:=fun w'=>∃p:Regrown,w'=Go.Sort.grow (redrawn w p.d) p.os) (Q:=fun a'=>∀w',(∃p:Regrown,w'=Go.Sort.grow (redrawn w p.d) p.os)→Q .normal a' w') (fun i o hi=> ?_) (fun _ w' hw' h=>h w' hw') _ _ _ _ ⟨⟨w.drawn+1,#[]⟩,by rw[Go.Sort.grow_empty];rfl⟩ ?_)
 ·rw[List.getElem?_toArray]at hi;exact(List.all_eq_true.1 hro) o (List.mem_of_getElem? hi)
 ·have:=wpAnyQIn_lex (F:=F) (n:=n) (C:=fun w'=>∃p:Regrown,w'=Go.Sort.grow (redrawn w p.d) p.os) (md:= .any) hB.1 l 0 (Array.replicate l.toArray.size false) a (by simp) (by simpa using hB.2) h
  simpa using this
end
theorem kHx {P:Program}{o:Oper}{a:Act}{w:World}(f:FuncId)(x y z:Operand)(ts:Array TypeId)(ho:o.op= .call {callee:= .value (.func f),args:= #[x,y,z],argTypes:=ts})(vx vy vz:Value)(hx:a.eval x=vx)(hy:a.eval y=vy)(hz:a.eval z=vz)(eg:∀args W,(callFunc f args).run P W= .ok (.enter f args) W):
  (execOp a.eval o).run P w= .ok (.enter f #[vx,vy,vz]) w:=by
 subst hx hy hz;unfold execOp;simp only[ho];simp[resolve,invoke,go_sem,eg,Act.eval]
theorem kCl {B:Nat}{E:TypeId}{w:World}{a:Option Addr}{n cap:Nat}{xs:List Value}(h:Own B E w a n cap xs):kEz w a xs:=fun i hi=>by
 have hl:=h.len;obtain⟨g,rfl,_⟩:=h.at (by omega);exact⟨g,0,rfl,by rw[Nat.zero_add];exact h.cell i hi⟩
theorem kBv {α:Type}(val:α→Value)(L:List (List α)):kB7 val L=L.flatten.map val:=by
 unfold kB7;rw[List.flatMap_def,List.map_flatten]
theorem kBm {α:Type}(L:List (List α))(h:∀l∈L,l.length=64):L.flatten.length=64*L.length:=by
 induction L with
 | nil=>rfl
 | cons l L ih=>
  rw[List.flatten_cons,List.length_append,h l (by simp),ih (fun m hm=>h m (by simp[hm])),List.length_cons];omega
end Go.Proofs.Ytabbabkmojaoaaa

namespace Go.Proofs.Ytabbabkmojaoaaa
open Go.RowKit
attribute [local go_sem] Oper.semAt_some
attribute [local go_sem] kEq
theorem Try.elemSn:kEs Try.prog 22 24 (.agg #[.int .i32 0,.int .i32 0,.int .u8 0]) 3 12:=⟨Try.underlying22,by kernel_rfl,by kernel_rfl,by decide⟩
def flatO (of:Int→Int) (l:List SpanD):List Value:=l.flatMap (fun s=>[.int .i32 s.f,.int .i32 s.t,val8 (of s.v)])
theorem kEb (of:Int→Int)(l:List SpanD)(s:SpanD):flatO of (l++[s])=flatO of l++[.int .i32 s.f,.int .i32 s.t,val8 (of s.v)]:=by simp[flatO]
theorem kCj {P:Program}{o:Oper}{a:Act}{w:World}(y x:Operand)(ts:Array TypeId)(ho:o.op= .call {callee:= .value y,args:= #[x],argTypes:=ts})(f:FuncId)(lb:Array Value)(hy:a.eval y= .func (.func f) #[] lb)(v:Value)(hx:a.eval x=v)(eg:∀args W,(callFunc f args).run P W= .ok (.enter f args) W):
  (execOp a.eval o).run P w= .ok (.enter f (#[v]++lb)) w:=by
 unfold execOp;simp only[ho,resolve,hy,hx,List.map_toArray,List.map_cons,List.map_nil,Sem.run_bind,Sem.run_pure,Result.andThen_ok];simp[invoke,go_sem,eg]
def SnR (w:World) (of:Int→Int) (l:List SpanD) (ov iv:Value) (wr:World):Prop:=
 ∃(k:Nat) (a:Option Addr) (c:Nat),k≤l.length∧iv= .int .i64 (k:Nat)∧ov= .slice a k c∧wr.ownsRow w.heap.size 24 3 (.slice a k c) k (flatO of (l.take k))∧Below w.heap.size w wr
theorem spans_walk (w:World)(a:Option Addr)(n c:Nat)(l:List SpanD)(hl:l.length=n)(hn:n≤1048576)(hs:SpansAt w a l)(of:Int→Int)(cf:Nat)(lb:Array Value)(eg:∀args W,(callFunc cf args).run Try.prog W= .ok (.enter cf args) W)
  (hcall:∀s∈l,∀W,Below w.heap.size w W→Calls Try.prog cf (#[.int .u8 s.v]++lb) W fun e W'=>e= .returned (val8 (of s.v))∧Below W.heap.size W W'):
  Calls Try.prog 104 #[.slice a n c,.func (.func cf) #[] lb] w fun e w'=>∃a' c',e= .returned (.slice a' n c')∧w'.ownsRow w.heap.size 24 3 (.slice a' n c') n (flatO of l)∧Below w.heap.size w w':=by
 have HL:=jH hl;have HS:=jH hs;have HEg:=jH eg;have HCl:=jH hcall
 clear hl hs eg hcall
 go_enter Try.func104,Try.ntmps104
 go_wp2
 go_loopw [5,6] (SnR w of l) (fun _ i _=>n - (intOf i).toNat)
 case atStart=>exact⟨0,none,0,Nat.zero_le _,rfl,rfl,World.ownsRow_nil _ _ _ _,Below.refl _ _⟩
 case round=>
  obtain⟨k,a2,c2,hk,rfl,rfl,hown,hbel⟩:=hrel
  have HOw:=jH hown;have HBl:=jH hbel
  clear hown hbel;rw[HL.out]at hk
  by_cases hkn:k<n
  ·have hki:(k:Int)<(n:Int):=by omega
   have hkl:k<l.length:=by rw[HL.out];exact hkn
   have HTk:=jH (show l.take (k+1)=l.take k++[l[k]]from List.take_succ_eq_append_getElem hkl);have hsl:=HS.out.below HBl.out (fun b o e h0=>by obtain⟨b',o',e',h1, -⟩:=HS.out 0 h0;rw[e]at e';cases e';exact World.block_lt_of_cell? w _ h1);obtain⟨b,o,rfl,c0,c1,c3⟩:=hsl k hkl;have HCk:=jH (fun(W:World) (hb:Below wr.heap.size wr W)=>HCl.out _ (List.getElem_mem hkl) W (HBl.out.trans (hb.mono HBl.out.size)));generalize l[k]=s at*;clear hsl;obtain⟨sf,st,sv⟩:=s
   dsimp only at*
   go_upto_region 5 with(fail)
   refine(wpIn_wide (n:=2)).1 ?_;refine kAi [20,21] (fun w':World=>w'.cell? ⟨b,o+k*3,none⟩=some (.int .i32 sf)∧w'.cell? ⟨b,o+k*3+1,none⟩=some (.int .i32 st)∧w'.cell? ⟨b,o+k*3+2,none⟩=some (.int .u8 sv)) (by kernel_rfl) ?_
   have HCb:Hid (∀(wa wb:World),Below wa.heap.size wa wb→(wa.cell? ⟨b,o+k*3,none⟩=some (.int .i32 sf)∧wa.cell? ⟨b,o+k*3+1,none⟩=some (.int .i32 st)∧wa.cell? ⟨b,o+k*3+2,none⟩=some (.int .u8 sv))→(wb.cell? ⟨b,o+k*3,none⟩=some (.int .i32 sf)∧wb.cell? ⟨b,o+k*3+1,none⟩=some (.int .i32 st)∧wb.cell? ⟨b,o+k*3+2,none⟩=some (.int .u8 sv))):=jH (fun wa wb hb ⟨h1,h2,h3⟩=>
    ⟨(hb.cell (p:=⟨b,o+k*3,none⟩) (World.block_lt_of_cell? wa _ h1)).trans h1,(hb.cell (p:=⟨b,o+k*3+1,none⟩) (World.block_lt_of_cell? wa _ h2)).trans h2,(hb.cell (p:=⟨b,o+k*3+2,none⟩) (World.block_lt_of_cell? wa _ h3)).trans h3⟩)
   have HCx:Hid (wr.drew.cell? ⟨b,o+k*3,none⟩=some (.int .i32 sf)∧wr.drew.cell? ⟨b,o+k*3+1,none⟩=some (.int .i32 st)∧wr.drew.cell? ⟨b,o+k*3+2,none⟩=some (.int .u8 sv)):=jH ⟨c0,c1,c3⟩;have HBd:Hid (Below wr.heap.size wr wr.drew):=jH (Below.refl _ _).drew;have HOd:Hid (wr.drew.ownsRow w.heap.size 24 3 (.slice a2 k c2) k (flatO of (l.take k))):=jH (World.ownsRow.drew HOw.out);clear c0 c1 c3;have heg:=HEg.out;generalize wr.drew=w1 at*;refine' kAa (i:=0) (v:=_) [20,21] (by kernel_rfl) rfl (by rfl) (by kernel_rfl) (fun _ _ _ h=>h) (by rfl) (by rintro w' ⟨c0,c1,c2⟩;go_simp;try with_reducible rfl) HCx.out ?_;simp only[jA,jB,jC,Act.put,jD,jE,jF];refine' kAa (i:=1) (v:=_) [3,4,5,18,19,20,21] (by kernel_rfl) rfl (by rfl) (by kernel_rfl) (fun _ _ _ h=>h) (by rfl) (by rintro w' ⟨c0,c1,c2⟩;go_simp;try with_reducible rfl) HCx.out ?_;simp only[jA,jB,jC,Act.put,jD,jE,jF];refine' kAa (i:=2) (v:=_) [3,4,5,18,19,20,21] (by kernel_rfl) rfl (by rfl) (by kernel_rfl) (fun _ _ _ h=>h) (by rfl) (by rintro w' ⟨c0,c1,c2⟩;go_simp;try with_reducible rfl) HCx.out ?_;simp only[jA,jB,jC,Act.put,jD,jE,jF];refine' kAa (i:=3) (v:=_) [4,5,18,19,20,21] (by kernel_rfl) rfl (by rfl) (by kernel_rfl) (fun _ _ _ h=>h) (by rfl) (by rintro w' ⟨c0,c1,c2⟩;go_simp;try with_reducible rfl) HCx.out ?_;simp only[jA,jB,jC,Act.put,jD,jE,jF];refine' kAa (i:=4) (v:=_) [5,18,19,20,21] (by kernel_rfl) rfl (by rfl) (by kernel_rfl) (fun _ _ _ h=>h) (by rfl) (by rintro w' ⟨c0,c1,c2⟩;go_simp;try with_reducible rfl) HCx.out ?_;simp only[jA,jB,jC,Act.put,jD,jE,jF];refine' kAa (i:=5) (v:=_) [18,19,20,21] (by kernel_rfl) rfl (by rfl) (by kernel_rfl) (fun _ _ _ h=>h) (by rfl) (by rintro w' ⟨c0,c1,c2⟩;go_simp;try with_reducible rfl) HCx.out ?_;simp only[jA,jB,jC,Act.put,jD,jE,jF];refine' kAa (i:=6) (v:=_) [8,9,10,18,19,20,21] (by kernel_rfl) rfl (by rfl) (by kernel_rfl) (fun _ _ _ h=>h) (by rfl) (by rintro w' ⟨c0,c1,c2⟩;go_simp;try with_reducible rfl) HCx.out ?_;simp only[jA,jB,jC,Act.put,jD,jE,jF];refine' kAa (i:=7) (v:=_) [8,9,10,18,19,20,21] (by kernel_rfl) rfl (by rfl) (by kernel_rfl) (fun _ _ _ h=>h) (by rfl) (by rintro w' ⟨c0,c1,c2⟩;go_simp;try with_reducible rfl) HCx.out ?_;simp only[jA,jB,jC,Act.put,jD,jE,jF];refine' kAa (i:=8) (v:=_) [9,10,18,19,20,21] (by kernel_rfl) rfl (by rfl) (by kernel_rfl) (fun _ _ _ h=>h) (by rfl) (by rintro w' ⟨c0,c1,c2⟩;go_simp;try with_reducible rfl) HCx.out ?_;simp only[jA,jB,jC,Act.put,jD,jE,jF];refine' kAa (i:=9) (v:=_) [10,18,19,20,21] (by kernel_rfl) rfl (by rfl) (by kernel_rfl) (fun _ _ _ h=>h) (by rfl) (by rintro w' ⟨c0,c1,c2⟩;go_simp;try with_reducible rfl) HCx.out ?_;simp only[jA,jB,jC,Act.put,jD,jE,jF];refine' kAa (i:=10) (v:=_) [18,19,20,21] (by kernel_rfl) rfl (by rfl) (by kernel_rfl) (fun _ _ _ h=>h) (by rfl) (by rintro w' ⟨c0,c1,c2⟩;go_simp;try with_reducible rfl) HCx.out ?_;simp only[jA,jB,jC,Act.put,jD,jE,jF];refine' kAa (i:=11) (v:=_) [17,18,19,20,21] (by kernel_rfl) rfl (by rfl) (by kernel_rfl) (fun _ _ _ h=>h) (by rfl) (by rintro w' ⟨c0,c1,c2⟩;go_simp;try with_reducible rfl) HCx.out ?_;simp only[jA,jB,jC,Act.put,jD,jE,jF];refine' kAa (i:=12) (v:=_) [14,15,16,17,18,19,20,21] (by kernel_rfl) rfl (by rfl) (by kernel_rfl) (fun _ _ _ h=>h) (by rfl) (by rintro w' ⟨c0,c1,c2⟩;go_simp;try with_reducible rfl) HCx.out ?_;simp only[jA,jB,jC,Act.put,jD,jE,jF];refine' kAa (i:=13) (v:=_) [14,15,16,17,18,19,20,21] (by kernel_rfl) rfl (by rfl) (by kernel_rfl) (fun _ _ _ h=>h) (by rfl) (by rintro w' ⟨c0,c1,c2⟩;go_simp;try with_reducible rfl) HCx.out ?_;simp only[jA,jB,jC,Act.put,jD,jE,jF];refine' kAa (i:=14) (v:=_) [15,16,17,18,19,20,21] (by kernel_rfl) rfl (by rfl) (by kernel_rfl) (fun _ _ _ h=>h) (by rfl) (by rintro w' ⟨c0,c1,c2⟩;go_simp;try with_reducible rfl) HCx.out ?_;simp only[jA,jB,jC,Act.put,jD,jE,jF];refine' kAa (i:=15) (v:=_) [16,17,18,19,20,21] (by kernel_rfl) rfl (by rfl) (by kernel_rfl) (fun _ _ _ h=>h) (by rfl) (by rintro w' ⟨c0,c1,c2⟩;go_simp;try with_reducible rfl) HCx.out ?_;simp only[jA,jB,jC,Act.put,jD,jE,jF];refine' kAa (i:=16) (v:=_) [17,18,19,20,21] (by kernel_rfl) rfl (by rfl) (by kernel_rfl) (fun _ _ _ h=>h) (by rfl) (by rintro w' ⟨c0,c1,c2⟩;go_simp;try with_reducible rfl) HCx.out ?_;simp only[jA,jB,jC,Act.put,jD,jE,jF];refine kAk (i:=17) (by kernel_rfl) ?_;refine kA9 (i:=17) rfl (by rfl) (by rfl) (fun _ _=>trivial) (kCj (.tmp 24) (.tmp 29) _ rfl cf lb rfl (.int .u8 sv) rfl heg) (fun h=>by cases h) ?_;refine callsIn_wide.2 ?_;refine(HCk.out w1 HBd.out).mono ?_;rintro e w2 ⟨rfl,hb⟩;refine⟨_,rfl,fun _=>HCb.out _ _ hb HCx.out,?_⟩;have HC2:=jH (HCb.out _ _ hb HCx.out);have HB2:=jH (HBd.out.trans (hb.mono HBd.out.size));have HO2:Hid (w2.ownsRow w.heap.size 24 3 (.slice a2 k c2) k (flatO of (l.take k))):=jH (HOd.out.kept (row:=none) ⟨hb.os,hb.tape,hb.output,hb.size,fun j hj _=>hb.block j hj⟩ (by cases hv:(Value.slice a2 k c2).ownBlock<;>simp));clear hb HBd HOd HCx;simp only[jA,jB,jC,Act.put,jD,jE,jF]
   obtain⟨y,hy⟩:∃y,y=of sv:=⟨_,rfl⟩
   rw[←hy]
   have HY:=jH hy;clear hy
   refine' kAa (i:=18) (v:= .agg #[.int .i32 sf,.int .i32 st,val8 y]) [19,20,21] (by kernel_rfl) rfl (by rfl) (by kernel_rfl) (fun _ _ _ h=>h) (by rfl) (by unfold val8;rintro w' ⟨c0,c1,c2⟩;go_simp;try with_reducible rfl) HC2.out ?_;simp only[jA,jB,jC,Act.put,jD,jE,jF];have hb3:=(Below.refl w2.heap.size w2).alloc jR (.cells #[.int .i32 sf,.int .i32 st,val8 y] 24);refine kAk (i:=19) (by kernel_rfl) ?_;refine kCc (i:=19) (v:= .slice (some ⟨w2.heap.size,0,none⟩) 1 1) (w':=w2.alloc (.cells #[.int .i32 sf,.int .i32 st,val8 y] 24)) rfl (by rfl) (fun _ _=>trivial) (by rfl) (by unfold val8;go_simp;try with_reducible rfl) (fun _=>HCb.out _ _ hb3 HC2.out) ?_;simp only[jA,jB,jC,Act.put,jD,jE,jF];clear hb3;refine kA3 20 (by rfl) (by kernel_rfl) (by kernel_rfl) ?_;simp only[List.drop_succ_cons,List.drop_zero];have hsz:w.heap.size≤w2.heap.size:=Nat.le_trans HBl.out.size HB2.out.size
   gi_wp2_with (gi_at_builtin;refine kEu Try.elemSn rfl (.tmp 13) (.tmp 32) rfl HO2.out hsz (by omega) (by omega) _ rfl (by intro u hu;simp at hu;rcases hu with rfl | rfl | rfl<;>rfl) _ rfl rfl ?_)
   intro a3 c3 w4 ho hg hn4
   have HO4:Hid (w4.ownsRow w.heap.size 24 3 (.slice a3 (k+1) c3) (k+1) (flatO of (l.take (k+1)))):=jH (by
    rw[HTk.out,kEb]
    dsimp only
    rw[←HY.out]
    exact ho)
   have HB4:Hid (Below w.heap.size w w4):=jH ((HBl.out.trans (HB2.out.mono HBl.out.size)).trans (Below.ofGrown hg hsz (fun q e=>(World.ownsRow.lt HO2.out q e).1)));clear ho hg hn4 heg
   gi_wp2
   go_wp2
   go_roundw
   case rel=>exact⟨k+1,a3,c3,by rw[HL.out];omega,by go_num,rfl,HO4.out,HB4.out⟩
   case measure=>simp[intOf];omega
  ·obtain rfl:k=n:=by omega
   have hki:¬(k:Int)<(k:Int):=by omega
   have htk:l.take k=l:=List.take_of_length_le (by rw[HL.out];exact Nat.le_refl _);rw[htk]at HOw;clear htk;go_wp2
   go_ret
   exact⟨_,_,rfl,HOw.out,HBl.out⟩
end Go.Proofs.Ytabbabkmojaoaaa
