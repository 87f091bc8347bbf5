/- several texts in one: RI -/
import Derived.Test.YtabbabkmojaoaaaNF
import Derived.Test.YtabbabkmojaoaaaNE
set_option linter.unusedVariables false
set_option linter.unusedSimpArgs false
set_option maxRecDepth 100000
set_option maxHeartbeats 16000000
namespace Go.Proofs.Ytabbabkmojaoaaa
open Go.RowKit
def kJq (md:Region.Mode) (ops:Array Oper) (W:List Nat) (l1:Array Bool):Nat→Array Bool→Bool
 | 0,l=>decide (l.toList=l1.toList)
 | f+1,l=> !(Region.ready md ops l).isEmpty&&(Region.ready md ops l).all (fun i=>W.contains i&&kJq md ops W l1 f (l.setIfInBounds i true))
def kIv (o:Oper):Bool:=kDb o||match o.op with
 | .alloc .. =>true
 | _=>false
theorem kJ8 {P:Program}{o:Oper}(h:kIv o=true)(w:World)(ρ:Operand→Value):o.about P w ρ=none:=by
 unfold kIv at h;rw[Bool.or_eq_true]at h
 rcases h with h | h
 ·exact kEj h w ρ
 ·unfold Oper.about
  cases ho:o.op<;>rw[ho]at h<;>first | rfl | (simp at h)
theorem kJ9 {o:Oper}(h:kIv o=true):∀c,o.op≠ .defer c:=by
 intro c e;unfold kIv at h;rw[Bool.or_eq_true]at h
 rcases h with h | h
 ·exact kEk h c e
 ·rw[e]at h;simp at h
def kJe (ops:Array Oper) (i s:Nat):Prop:=∃o,ops[i]? =some o∧o.dst=some s
section
variable {F : Fence} {n : Nat} {P : Program} {ops : Array Oper} {Q : Exit → Act → World → Prop} {md : Region.Mode} {C : World → Prop}
theorem kGo {t:Array Value}{o:Oper}{v:Value}{ds:List Deferred}{s:Nat}(h:o.dst≠some s):(({tmps:=t,defers:=ds}:Act).put o.dst v).tmps[s]? =t[s]? :=by
 unfold Act.put
 cases hd:o.dst with
 | none=>rfl
 | some s'=>
  have:s'≠s:=fun e=>h (by rw[hd,e])
  simp only;rw[Array.getElem?_setIfInBounds,if_neg this]
theorem kM0 {a:Act}{o:Oper}{v:Value}:(a.put o.dst v).tmps.size=a.tmps.size:=by
 unfold Act.put
 cases o.dst<;>simp
theorem kKx {a:Act}{o:Oper}{v:Value}:(a.put o.dst v).defers=a.defers:=by
 unfold Act.put
 cases o.dst<;>rfl
theorem kG2 {a:Act}{d:Option Tmp}{v:Value}{s:Nat}(h:d=some s)(hs:s<a.tmps.size):(a.put d v).tmps[s]? =some v:=by
 unfold Act.put;rw[h];simp only;rw[Array.getElem?_setIfInBounds,if_pos rfl,if_pos hs]
def kLj (ops:Array Oper) (W D:List Nat) (own:Nat→Nat):Bool:=
 W.all (fun i=>match ops[i]? with
  | some o=>kIv o&&(match o.dst with
   | some s=>D.contains s&&W.all (fun j=>own i==own j||(match ops[j]? with
    | some o'=>o'.dst != some s
    | none=>true))
   | none=>true)
  | none=>true)
theorem kH0 {W D:List Nat}{own:Nat→Nat}(h:kLj ops W D own=true):∀i∈W,∀o,ops[i]? =some o→kIv o=true:=fun i hi o ho=>by
 unfold kLj at h;have:=List.all_eq_true.1 h i hi;rw[ho]at this;simp only[Bool.and_eq_true]at this;exact this.1
theorem kIu {W D:List Nat}{own:Nat→Nat}(h:kLj ops W D own=true):∀i∈W,∀j∈W,own i≠own j→∀s,kJe ops i s→¬kJe ops j s:=by
 rintro i hi j hj hij s ⟨o,ho,hs⟩ ⟨o',ho',hs'⟩;unfold kLj at h;have:=List.all_eq_true.1 h i hi;rw[ho]at this;simp only[Bool.and_eq_true,hs]at this;have:=List.all_eq_true.1 this.2.2 j hj;rw[ho']at this;simp[hij,hs']at this
theorem kEv {W D:List Nat}{own:Nat→Nat}(h:kLj ops W D own=true){s:Nat}(hs:s∉D):∀j∈W,¬kJe ops j s:=by
 rintro i hi ⟨o,ho,hd⟩;unfold kLj at h;have:=List.all_eq_true.1 h i hi;rw[ho]at this;simp only[Bool.and_eq_true,hd]at this;exact hs (by simpa using this.2.1)
theorem kHu (W M:List Nat)(own:Nat→Nat)(J:Nat→Array Bool→Array Value→(Nat→Prop)→World→Prop)(z:Nat)(w0:World)(t0:Array Value)(ds:List Deferred)(l1:Array Bool)(g:Nat)
  (hcalm:∀i∈W,∀o,ops[i]? =some o→kIv o=true)
  (hown:∀i∈W,∀j∈W,own i≠own j→∀s,kJe ops i s→¬kJe ops j s)
  (hC:∀w,Below z w0 w→C w)
  (hloc:∀c l l' t t' T w w',J c l t T w→(∀i∈W,own i=c→l'.getD i false=l.getD i false)→(∀i∈W,own i=c→∀s,kJe ops i s→t'[s]? =t[s]?)→w.heap.size≤w'.heap.size→(∀k,T k→w'.heap[k]? =w.heap[k]?)→J c l' t' T w')
  (hstep:∀i∈W,∀o,ops[i]? =some o→∀(l:Array Bool) (a:Act) (T:Nat→Prop) (w:World),i<l.size→l.getD i true=false→J (own i) l a.tmps T w→(∀e∈o.after,Region.binds md e=true→l.getD e.on false=true)→a.tmps.size=t0.size→(∀s,(∀j∈W,¬kJe ops j s)→a.tmps[s]? =t0[s]?)→Below z w0 w→z≤w.heap.size→(∀k,T k→z≤k∧k<w.heap.size)→
   Region.wanted o (yielded ops a.tmps)=true∧∃v w' T',(execOp a.eval o).run P w= .ok (.value v) w'∧Off T w w'∧kB4 T T' w w'∧(∀k,T' k→k<w'.heap.size)∧J (own i) (l.setIfInBounds i true) (a.put o.dst v).tmps T' w')
  (hend:∀(a:Act) (w:World) (T:Nat→Nat→Prop),a.defers=ds→(∀c,J c l1 a.tmps (T c) w)→a.tmps.size=t0.size→(∀s,(∀j∈W,¬kJe ops j s)→a.tmps[s]? =t0[s]?)→Below z w0 w→z≤w.heap.size→(∀c k,T c k→z≤k∧k<w.heap.size)→(∀c d k,c≠d→T c k→¬T d k)→kGx F n P md ops Q M C g l1 a w):
  ∀(f:Nat) (l:Array Bool) (a:Act) (w:World) (T:Nat→Nat→Prop),kJq md ops W l1 f l=true→a.defers=ds→(∀c,J c l a.tmps (T c) w)→a.tmps.size=t0.size→(∀s,(∀j∈W,¬kJe ops j s)→a.tmps[s]? =t0[s]?)→Below z w0 w→z≤w.heap.size→
   (∀c k,T c k→z≤k∧k<w.heap.size)→(∀c d k,c≠d→T c k→¬T d k)→kGx F n P md ops Q M C (f+g) l a w:=by
 intro f
 induction f with
 | zero=>
  intro l a w T hx hd hJ hz ho hb hzz hT hdj
  have:l=l1:=by
   unfold kJq at hx;exact Array.toList_inj.1 (of_decide_eq_true hx)
  subst this;rw[Nat.zero_add];exact hend a w T hd hJ hz ho hb hzz hT hdj
 | succ f ih=>
  intro l a w T hx hd hJ hz ho hb hzz hT hdj;unfold kJq at hx;simp only[Bool.and_eq_true,Bool.not_eq_true',List.all_eq_true]at hx;obtain⟨hne,hall⟩:=hx;rw[show f+1+g=(f+g)+1 by omega];refine⟨fun h0=>(by rw[h0]at hne;simp at hne),fun i hi=> ?_⟩;obtain⟨hiW,hx'⟩:=hall i hi
  have hiW:i∈W:=by simpa using hiW
  obtain⟨hun,o,hoi,haft⟩:=mem_ready.1 hi
  have hisz:i<l.size:=by
   by_cases h:i<l.size
   ·exact h
   ·rw[Array.getD_eq_getD_getElem?,Array.getElem?_eq_none (by omega)]at hun;cases hun
  obtain⟨hw,v,w',T',hex,hoff,hwid,hTs,hJ'⟩:=hstep i hiW o hoi l a (T (own i)) w hisz hun (hJ _) haft hz ho hb hzz (fun k hk=>hT _ k hk);have hc:=hcalm i hiW o hoi;have hb':Below z w0 w':=hb.trans ⟨hoff.os,hoff.tape,hoff.output,hoff.size,fun k hk=>hoff.block k (by omega) (fun h=>by have:=(hT _ k h).1;omega)⟩;unfold wpOpIn;simp only[hoi,hw,if_true,Oper.wpIn];refine⟨fun f hf=>(by rw[kJ8 hc]at hf;cases hf),?_⟩;rw[Oper.semAt_eq _ _ _ (kJ9 hc),hex];refine⟨fun _=>hC _ hb',?_⟩
  have hdi:kJe ops i=fun s=>o.dst=some s:=by
   funext s
   apply propext
   exact⟨fun⟨o',h1,h2⟩=>by rw[hoi]at h1;cases h1;exact h2,fun h=>⟨o,hoi,h⟩⟩
  refine ih (l.setIfInBounds i true) (a.put o.dst v) w' (fun c=>if c=own i then T' else T c) hx' (by rw[kKx];exact hd) (fun c=> ?_) (by rw[kM0];exact hz) (fun s hs=> ?_) hb' (Nat.le_trans hzz hoff.size) (fun c k hk=> ?_) (fun c d k hcd hc1 hd1=> ?_)
  ·by_cases hc:c=own i
   ·subst hc;rw[if_pos rfl];exact hJ'
   ·rw[if_neg hc]
    refine hloc c l _ a.tmps _ (T c) w w' (hJ c) (fun j hj hjc=> ?_) (fun j hj hjc s hs=> ?_) hoff.size (fun k hk=> ?_)
    ·have:i≠j:=fun e=>hc (by rw[←hjc,e])
     rw[Array.getD_eq_getD_getElem?,Array.getElem?_setIfInBounds,if_neg this,←Array.getD_eq_getD_getElem?]
    ·have h1:=hown i hiW j hj (fun e=>hc (by rw[←hjc,←e])) s;refine kGo (ds:=a.defers) (fun e=> ?_);exact h1 (by rw[hdi];exact e) hs
    ·exact hoff.block k (hT c k hk).2 (fun h=>hdj c (own i) k hc hk h)
  ·rw[show(a.put o.dst v).tmps[s]? =a.tmps[s]? from kGo (ds:=a.defers) (fun e=>hs i hiW (by rw[hdi];exact e))];exact ho s hs
  ·split at hk
   ·refine⟨?_,hTs k hk⟩
    rcases hwid k hk with h | h
    ·exact(hT _ k h).1
    ·omega
   ·have:=hT c k hk;exact⟨this.1,Nat.lt_of_lt_of_le this.2 hoff.size⟩
  ·split at hc1
   ·rename_i e1
    rw[if_neg (fun e=>hcd (by rw[e1,e]))]at hd1
    rcases hwid k hc1 with h | h
    ·exact hdj _ d k (fun e=>hcd (by rw[e1,e])) h hd1
    ·have:=(hT d k hd1).2;omega
   ·rename_i e1
    split at hd1
    ·rcases hwid k hd1 with h | h
     ·exact hdj c (own i) k e1 hc1 h
     ·have:=(hT c k hc1).2;omega
    ·exact hdj c d k hcd hc1 hd1
end
theorem kCo {a:Act}{s:Nat}{v:Value}(h:a.tmps[s]? =some v):a.eval (.tmp s)=v:=by
 simp[Act.eval,Array.getD_eq_getD_getElem?,h]
theorem kG9 {l:Array Bool}{i:Nat}(h:l.getD i true=false):l.getD i false=false:=by
 simp only[Array.getD_eq_getD_getElem?]at h ⊢
 cases hl:l[i]? with
 | none=>rfl
 | some b=>rw[hl]at h;simpa using h
theorem kCs {l:Array Bool}{i j:Nat}(b:Bool)(h:i≠j):(l.setIfInBounds i b).getD j false=l.getD j false:=by
 rw[Array.getD_eq_getD_getElem?,Array.getElem?_setIfInBounds,if_neg h,←Array.getD_eq_getD_getElem?]
theorem kEl {l:Array Bool}{i:Nat}(b:Bool)(h:i<l.size):(l.setIfInBounds i b).getD i false=b:=by
 rw[Array.getD_eq_getD_getElem?,Array.getElem?_setIfInBounds,if_pos rfl,if_pos h];rfl
theorem kHw {P:Program}{t e:TypeId}{z:Value}{size bytes:Nat}(el:kEs P t e z size bytes){w:World}{o:Oper}{act:Act}(s x:Operand)
  (ho:o.op= .call {callee:= .builtin .append,args:= #[s,x],argTypes:= #[t,t]}){B:Nat}{a:Option Addr}{n cap:Nat}{xs:List Value}(hown:w.ownsRow B e size (.slice a n cap) n xs)(hB:B≤w.heap.size)
  {a2:Option Addr}{m c:Nat}{ys:List Value}(hys:ys.length=m*size)(hsrc:∀j v,ys[j]? =some v→∃ad,a2=some ad∧w.cell? (ad.add j)=some v)(hnone:a2=none→c=0)(hone:∀u∈ys,u.oneCell'=true)(hn:(n+m)*bytes≤140737488355328)(hm:n+m≤maxLen)
  (hs:act.eval s= .slice a n cap)(hx:act.eval x= .slice a2 m c):
  ∃a' cap' w',(execOp act.eval o).run P w= .ok (.value (.slice a' (n+m) cap')) w'∧w'.ownsRow B e size (.slice a' (n+m) cap') (n+m) (xs++ys)∧w.grownBy w' (Value.slice a n cap).ownBlock∧kBk w (.slice a n cap) (.slice a' (n+m) cap'):=by
 obtain⟨i,hi,hz,h1,hb⟩:=info_parts el.inf;have hp:=el.pos
 cases a2 with
 | none=>
  have hy0:ys=[]:=by
   cases ys with
   | nil=>rfl
   | cons y t=>obtain⟨ad,hbad,_⟩:=hsrc 0 y (by simp);simp at hbad
  subst hy0
  have hm0:m=0:=by
   rcases Nat.mul_eq_zero.1 (by simpa using hys.symm)with h | h
   ·exact h
   ·omega
  subst hm0;have hc:=hnone rfl;subst hc;have hr:=run_append_owned_none (P:=P) w B t o.type e i size el.und hi _ n xs hown;refine⟨a,cap,w,?_,by simpa using hown,⟨rfl,rfl,rfl,Nat.le_refl _,fun _ _ _=>rfl⟩,.inl rfl⟩;unfold execOp;simp only[ho,resolve,invoke,builtin,Sem.run_bind,Sem.run_pure,Result.andThen_ok,List.map_toArray,List.map_cons,List.map_nil,hs,hx,hr]
  rfl
 | some ad=>
  have hcell:∀j v,ys[j]? =some v→w.cell? (ad.add j)=some v:=by
   intro j v hv;obtain⟨ad',h3,h4⟩:=hsrc j v hv;obtain rfl:=Option.some.inj h3;exact h4
  obtain⟨v',w',hr,h2,h3,h4⟩:=kGp (P:=P) w B t o.type e i z size bytes el.und hi hz h1 hb el.sz el.pos _ n xs hown ad m c ys hys hcell hone hm hn hB
  have hv':∃a' cap',v'= .slice a' (n+m) cap':=by
   rcases h2.2 with⟨rfl,h0⟩ | ⟨g,cap',cur,rfl,_⟩
   ·exact⟨none,0,by rw[h0]⟩
   ·exact⟨_,_,rfl⟩
  obtain⟨a',cap',rfl⟩:=hv';refine⟨a',cap',w',?_,h2,h3,h4⟩;unfold execOp;simp only[ho,resolve,invoke,builtin,Sem.run_bind,Sem.run_pure,Result.andThen_ok,List.map_toArray,List.map_cons,List.map_nil,hs,hx,hr]
def kKm (i1 i2 i3 s1 s2 s3 z:Nat) (E:TypeId) (n:Nat) (xs:List Value) (r:Value) (l:Array Bool) (t:Array Value) (T:Nat→Prop) (w:World):Prop:=
 (l.getD i1 false=true→l.getD i3 false=false→∃a c,t[s1]? =some (.slice a n c)∧w.ownsRow z E 1 (.slice a n c) n xs∧∀k,(Value.slice a n c).ownBlock=some k→T k)∧
 (l.getD i2 false=true→l.getD i3 false=false→∃b,t[s2]? =some (.slice (some ⟨b,0,none⟩) 1 1)∧w.cell? ⟨b,0,none⟩=some r∧T b)∧
 (l.getD i3 false=true→∃a c,t[s3]? =some (.slice a (n+1) c)∧w.ownsRow z E 1 (.slice a (n+1) c) (n+1) (xs++[r])∧∀k,(Value.slice a (n+1) c).ownBlock=some k→T k)∧
 (l.getD i3 false=true→l.getD i1 false=true∧l.getD i2 false=true)
theorem kH5 {B s:Nat}{E:TypeId}{w w':World}{a:Option Addr}{n c:Nat}{xs:List Value}(h:w.ownsRow B E s (.slice a n c) n xs)(hk:∀k,(Value.slice a n c).ownBlock=some k→w'.heap[k]? =w.heap[k]?):w'.ownsRow B E s (.slice a n c) n xs:=by
 refine⟨h.1,?_⟩
 rcases h.2 with hn | ⟨g,cap,cur,e,hb,hg,rest⟩
 ·exact .inl hn
 ·exact .inr ⟨g,cap,cur,e,hb,by rw[hk g (by rw[e];rfl)];exact hg,rest⟩
theorem kIf {i1 i2 i3 s1 s2 s3 z:Nat}{E:TypeId}{n:Nat}{xs:List Value}{r:Value}{l l':Array Bool}{t t':Array Value}{T:Nat→Prop}{w w':World}(h:kKm i1 i2 i3 s1 s2 s3 z E n xs r l t T w)
  (h1:l'.getD i1 false=l.getD i1 false)(h2:l'.getD i2 false=l.getD i2 false)(h3:l'.getD i3 false=l.getD i3 false)(k1:t'[s1]? =t[s1]?)(k2:t'[s2]? =t[s2]?)(k3:t'[s3]? =t[s3]?)(hk:∀k,T k→w'.heap[k]? =w.heap[k]?):kKm i1 i2 i3 s1 s2 s3 z E n xs r l' t' T w':=by
 unfold kKm at h ⊢;rw[h1,h2,h3,k1,k2,k3]
 refine⟨fun e1 e2=> ?_,fun e1 e2=> ?_,fun e1=> ?_,h.2.2.2⟩
 ·obtain⟨a,c,g1,g2,g3⟩:=h.1 e1 e2;exact⟨a,c,g1,kH5 g2 (fun k e=>hk k (g3 k e)),g3⟩
 ·obtain⟨b,g1,g2,g3⟩:=h.2.1 e1 e2;exact⟨b,g1,by rw[World.cell?_of_block (w:=w) (a:=⟨b,0,none⟩) (hk b g3)];exact g2,g3⟩
 ·obtain⟨a,c,g1,g2,g3⟩:=h.2.2.1 e1;exact⟨a,c,g1,kH5 g2 (fun k e=>hk k (g3 k e)),g3⟩
theorem kGm {T:Nat→Prop}{w w':World}{row:Option Nat}(h:w.grownBy w' row)(hr:∀k,row=some k→T k):Off T w w':=⟨h.os,h.tape,h.output,h.size,fun k hk hT=>h.block k hk (fun e=>hT (hr k e.symm))⟩
section
variable {P : Program} {tS E : TypeId} {zv : Value} {bytes : Nat} {i1 i2 i3 s1 s2 s3 z : Nat} {n : Nat} {xs : List Value} {r : Value} {l : Array Bool} {a : Act} {T : Nat → Prop} {w : World}
theorem kIg (el:kEs P tS E zv 1 bytes)(h12:i1≠i2)(h13:i1≠i3)(hs12:s1≠s2){o:Oper}(hd:o.dst=some s1)(hs:s1<a.tmps.size){x:Operand}(ho:o.op= .call {callee:= .builtin .append,args:= #[.const (.slice none 0 0),x],argTypes:= #[tS,tS]})
  (hi:i1<l.size)(hu:l.getD i1 true=false)(hJ:kKm i1 i2 i3 s1 s2 s3 z E n xs r l a.tmps T w)(hz:z≤w.heap.size)(hT:∀k,T k→z≤k∧k<w.heap.size)
  {ax:Option Addr}{cx:Nat}(hx:a.eval x= .slice ax n cx)(hxs:xs.length=n)(hsrc:∀j v,xs[j]? =some v→∃ad,ax=some ad∧w.cell? (ad.add j)=some v)(hnone:ax=none→cx=0)(hone:∀u∈xs,u.oneCell'=true)(hn:n*bytes≤140737488355328)(hm:n≤maxLen):
  ∃v w' T',(execOp a.eval o).run P w= .ok (.value v) w'∧Off T w w'∧kB4 T T' w w'∧(∀k,T' k→k<w'.heap.size)∧kKm i1 i2 i3 s1 s2 s3 z E n xs r (l.setIfInBounds i1 true) (a.put o.dst v).tmps T' w':=by
 have h3:l.getD i3 false=false:=by
  cases h:l.getD i3 false with
  | false=>rfl
  | true=>have:=(hJ.2.2.2 h).1;rw[kG9 hu]at this;cases this
 obtain⟨a',c',w',hr,ho',hg,hn'⟩:=kHw el (act:=a) (.const (.slice none 0 0)) x ho (World.ownsRow_nil w z E 1) hz (ys:=xs) (by simpa using hxs) hsrc hnone hone (by simpa using hn) (by simpa using hm) rfl hx;rw[Nat.zero_add]at hr ho' hn';rw[List.nil_append]at ho';have hoff:Off T w w':=kGm hg (fun k e=>by cases e)
 refine⟨_,w',fun k=>T k∨(w.heap.size≤k∧k<w'.heap.size),hr,hoff,fun k hk=>hk,fun k hk=> ?_,?_⟩
 ·rcases hk with h | h
  ·exact Nat.lt_of_lt_of_le (hT k h).2 hg.size
  ·exact h.2
 ·unfold kKm;rw[kEl true hi,kCs true h12,kCs true h13]
  refine⟨fun _ _=>⟨a',c',kG2 hd hs,ho',fun k e=> ?_⟩,fun e1 e2=> ?_,(fun e=>by rw[h3]at e;cases e),(fun e=>by rw[h3]at e;cases e)⟩
  ·rcases hn' with h | ⟨g,h,hg2⟩
   ·rw[h]at e;cases e
   ·have hl:=(World.ownsRow.lt ho' k e).2;rw[h]at e;cases e;exact .inr ⟨hg2,hl⟩
  ·obtain⟨b,g1,g2,g3⟩:=hJ.2.1 e1 e2
   refine⟨b,?_,?_,.inl g3⟩
   ·rw[show(a.put o.dst (.slice a' n c')).tmps[s2]? =a.tmps[s2]? from kGo (ds:=a.defers) (by rw[hd];exact fun e=>hs12 (by simpa using e))];exact g1
   ·rw[World.cell?_of_block (w:=w) (a:=⟨b,0,none⟩) (hg.block b (hT b g3).2 (fun e=>by cases e))];exact g2
theorem kIh (h12:i2≠i1)(h23:i2≠i3)(hs12:s2≠s1){o:Oper}(hd:o.dst=some s2)(hs:s2<a.tmps.size)(hi:i2<l.size)(hu:l.getD i2 true=false)(hJ:kKm i1 i2 i3 s1 s2 s3 z E n xs r l a.tmps T w)(hz:z≤w.heap.size)(hT:∀k,T k→z≤k∧k<w.heap.size)
  (hr:(execOp a.eval o).run P w= .ok (.value (.slice (some ⟨w.heap.size,0,none⟩) 1 1)) (w.alloc (.cells #[r] E))):
  ∃v w' T',(execOp a.eval o).run P w= .ok (.value v) w'∧Off T w w'∧kB4 T T' w w'∧(∀k,T' k→k<w'.heap.size)∧kKm i1 i2 i3 s1 s2 s3 z E n xs r (l.setIfInBounds i2 true) (a.put o.dst v).tmps T' w':=by
 have h3:l.getD i3 false=false:=by
  cases h:l.getD i3 false with
  | false=>rfl
  | true=>have:=(hJ.2.2.2 h).2;rw[kG9 hu]at this;cases this
 refine⟨_,_,fun k=>T k∨(w.heap.size≤k∧k<(w.alloc (.cells #[r] E)).heap.size),hr,Off.alloc T w _,fun k hk=>hk,fun k hk=> ?_,?_⟩
 ·rcases hk with h | h
  ·have:=(hT k h).2;rw[World.size_alloc];omega
  ·exact h.2
 ·unfold kKm;rw[kEl true hi,kCs true h12,kCs true h23];refine⟨fun e1 e2=> ?_,fun _ _=>⟨w.heap.size,kG2 hd hs,jK _ w.heap.size 0 _ _ (0,0) (jN w _),.inr ⟨Nat.le_refl _,by rw[World.size_alloc];omega⟩⟩,(fun e=>by rw[h3]at e;cases e),(fun e=>by rw[h3]at e;cases e)⟩;obtain⟨a',c',g1,g2,g3⟩:=hJ.1 e1 e2;refine⟨a',c',?_,World.ownsRow.alloc g2 _,fun k e=> .inl (g3 k e)⟩;rw[show(a.put o.dst (.slice (some ⟨w.heap.size,0,none⟩) 1 1)).tmps[s1]? =a.tmps[s1]? from kGo (ds:=a.defers) (by rw[hd];exact fun e=>hs12 (by simpa using e))];exact g1
theorem kGw (el:kEs P tS E zv 1 bytes)(h13:i3≠i1)(h23:i3≠i2){o:Oper}(hd:o.dst=some s3)(hs:s3<a.tmps.size)(ho:o.op= .call {callee:= .builtin .append,args:= #[.tmp s1,.tmp s2],argTypes:= #[tS,tS]})
  (hi:i3<l.size)(h1:l.getD i1 false=true)(h2:l.getD i2 false=true)(h3:l.getD i3 false=false)(hJ:kKm i1 i2 i3 s1 s2 s3 z E n xs r l a.tmps T w)(hz:z≤w.heap.size)(hT:∀k,T k→z≤k∧k<w.heap.size)
  (hone:r.oneCell'=true)(hn:(n+1)*bytes≤140737488355328)(hm:n+1≤maxLen):
  ∃v w' T',(execOp a.eval o).run P w= .ok (.value v) w'∧Off T w w'∧kB4 T T' w w'∧(∀k,T' k→k<w'.heap.size)∧kKm i1 i2 i3 s1 s2 s3 z E n xs r (l.setIfInBounds i3 true) (a.put o.dst v).tmps T' w':=by
 obtain⟨aa,ca,g1,g2,g3⟩:=hJ.1 h1 h3;obtain⟨b,k1,k2,k3⟩:=hJ.2.1 h2 h3
 obtain⟨a',c',w',hr,ho',hg,hn'⟩:=kHw el (act:=a) (.tmp s1) (.tmp s2) ho g2 hz (a2:=some ⟨b,0,none⟩) (m:=1) (c:=1) (ys:=[r]) rfl (fun j v hv=>by
  cases j with
  | zero=>simp at hv;subst hv;exact⟨_,rfl,by rw[Addr.add_lit];exact k2⟩
  | succ j=>simp at hv) (fun e=>by cases e) (fun u hu=>by simp at hu;subst hu;exact hone) hn hm (kCo g1) (kCo k1)
 have hoff:Off T w w':=kGm hg g3
 refine⟨_,w',fun k=>T k∨(w.heap.size≤k∧k<w'.heap.size),hr,hoff,fun k hk=>hk,fun k hk=> ?_,?_⟩
 ·rcases hk with h | h
  ·exact Nat.lt_of_lt_of_le (hT k h).2 hg.size
  ·exact h.2
 ·unfold kKm;rw[kEl true hi,kCs true h13,kCs true h23];refine⟨(fun _ e=>by cases e),(fun _ e=>by cases e),fun _=>⟨a',c',kG2 hd hs,ho',fun k e=> ?_⟩,fun _=>⟨h1,h2⟩⟩
  rcases hn' with h | ⟨g,h,hg2⟩
  ·rw[h]at e;exact .inl (g3 k e)
  ·have hl:=(World.ownsRow.lt ho' k e).2;rw[h]at e;cases e;exact .inr ⟨hg2,hl⟩
end
theorem kJr {t t0:Array Value}(D:List Nat)(hz:t.size=t0.size)(ho:∀s,s∉D→t[s]? =t0[s]?):t=D.foldl (fun u s=>u.setIfInBounds s (t.getD s undef)) t0:=by
 have key:∀(D:List Nat) (u:Array Value),u.size=t.size→(D.foldl (fun u s=>u.setIfInBounds s (t.getD s undef)) u).size=t.size∧∀s,(D.foldl (fun u s=>u.setIfInBounds s (t.getD s undef)) u)[s]? =if s∈D then t[s]? else u[s]? :=by
  intro D
  induction D with
  | nil=>intro u hu;exact⟨hu,fun s=>by simp⟩
  | cons d D ih=>
   intro u hu;rw[List.foldl_cons];obtain⟨h1,h2⟩:=ih (u.setIfInBounds d (t.getD d undef)) (by simpa using hu);refine⟨h1,fun s=> ?_⟩;rw[h2 s]
   by_cases hs:s∈D
   ·rw[if_pos hs,if_pos (List.mem_cons_of_mem _ hs)]
   ·rw[if_neg hs,Array.getElem?_setIfInBounds]
    by_cases hd:d=s
    ·subst hd;rw[if_pos rfl]
     by_cases h:d<u.size
     ·rw[if_pos h,if_pos (List.mem_cons_self ..),Array.getD_eq_getD_getElem?,Array.getElem?_eq_getElem (by omega)];rfl
     ·rw[if_neg h,if_pos (List.mem_cons_self ..),Array.getElem?_eq_none (by omega)]
    ·rw[if_neg hd,if_neg (by simp;exact⟨fun e=>hd e.symm,hs⟩)]
 apply Array.ext_getElem?
 intro s;rw[(key D t0 hz.symm).2 s]
 by_cases hs:s∈D
 ·rw[if_pos hs]
 ·rw[if_neg hs];exact ho s hs
def kJc (i1 i5 s1 s5 z:Nat) (E:TypeId) (n:Nat) (xs:List Value) (sv:Value) (l:Array Bool) (t:Array Value) (T:Nat→Prop) (w:World):Prop:=
 (l.getD i1 false=true→∃a c,t[s1]? =some (.slice a n c)∧w.ownsRow z E 1 (.slice a n c) n xs∧(∀k,(Value.slice a n c).ownBlock=some k→T k)∧(l.getD i5 false=true→t[s5]? =some (.agg #[.slice a n c,sv])))∧
 (l.getD i5 false=true→l.getD i1 false=true)
theorem kLy {i1 i5 s1 s5 z:Nat}{E:TypeId}{n:Nat}{xs:List Value}{sv:Value}{l l':Array Bool}{t t':Array Value}{T:Nat→Prop}{w w':World}(h:kJc i1 i5 s1 s5 z E n xs sv l t T w)
  (h1:l'.getD i1 false=l.getD i1 false)(h5:l'.getD i5 false=l.getD i5 false)(k1:t'[s1]? =t[s1]?)(k5:t'[s5]? =t[s5]?)(hk:∀k,T k→w'.heap[k]? =w.heap[k]?):kJc i1 i5 s1 s5 z E n xs sv l' t' T w':=by
 unfold kJc at h ⊢;rw[h1,h5,k1,k5];refine⟨fun e1=> ?_,h.2⟩;obtain⟨a,c,g1,g2,g3,g4⟩:=h.1 e1;exact⟨a,c,g1,kH5 g2 (fun k e=>hk k (g3 k e)),g3,g4⟩
def layJ (i s:Nat) (cs:Array Value) (ty:TypeId) (l:Array Bool) (t:Array Value) (T:Nat→Prop) (w:World):Prop:=
 l.getD i false=true→∃b,t[s]? =some (.pointer (some ⟨b,0,none⟩))∧w.heap[b]? =some (.cells cs ty (0,0))∧T b
theorem kMv {i s:Nat}{cs:Array Value}{ty:TypeId}{l l':Array Bool}{t t':Array Value}{T:Nat→Prop}{w w':World}(h:layJ i s cs ty l t T w)(h1:l'.getD i false=l.getD i false)(k1:t'[s]? =t[s]?)(hk:∀k,T k→w'.heap[k]? =w.heap[k]?):layJ i s cs ty l' t' T w':=by
 unfold layJ at h ⊢;rw[h1,k1];intro e;obtain⟨b,g1,g2,g3⟩:=h e;exact⟨b,g1,by rw[hk b g3];exact g2,g3⟩
section
variable {P : Program} {tS E : TypeId} {zv : Value} {bytes : Nat} {i1 i5 s1 s5 z : Nat} {n : Nat} {xs : List Value} {sv : Value} {l : Array Bool} {a : Act} {T : Nat → Prop} {w : World}
theorem kLz (el:kEs P tS E zv 1 bytes)(h15:i1≠i5){o:Oper}(hd:o.dst=some s1)(hs:s1<a.tmps.size){x:Operand}(ho:o.op= .call {callee:= .builtin .append,args:= #[.const (.slice none 0 0),x],argTypes:= #[tS,tS]})
  (hi:i1<l.size)(hu:l.getD i1 true=false)(hJ:kJc i1 i5 s1 s5 z E n xs sv l a.tmps T w)(hz:z≤w.heap.size)(hT:∀k,T k→z≤k∧k<w.heap.size)
  {ax:Option Addr}{cx:Nat}(hx:a.eval x= .slice ax n cx)(hxs:xs.length=n)(hsrc:∀j v,xs[j]? =some v→∃ad,ax=some ad∧w.cell? (ad.add j)=some v)(hnone:ax=none→cx=0)(hone:∀u∈xs,u.oneCell'=true)(hn:n*bytes≤140737488355328)(hm:n≤maxLen):
  ∃v w' T',(execOp a.eval o).run P w= .ok (.value v) w'∧Off T w w'∧kB4 T T' w w'∧(∀k,T' k→k<w'.heap.size)∧kJc i1 i5 s1 s5 z E n xs sv (l.setIfInBounds i1 true) (a.put o.dst v).tmps T' w':=by
 have h5:l.getD i5 false=false:=by
  cases h:l.getD i5 false with
  | false=>rfl
  | true=>have:=hJ.2 h;rw[kG9 hu]at this;cases this
 obtain⟨a',c',w',hr,ho',hg,hn'⟩:=kHw el (act:=a) (.const (.slice none 0 0)) x ho (World.ownsRow_nil w z E 1) hz (ys:=xs) (by simpa using hxs) hsrc hnone hone (by simpa using hn) (by simpa using hm) rfl hx;rw[Nat.zero_add]at hr ho' hn';rw[List.nil_append]at ho'
 refine⟨_,w',fun k=>T k∨(w.heap.size≤k∧k<w'.heap.size),hr,kGm hg (fun k e=>by cases e),fun k hk=>hk,fun k hk=> ?_,?_⟩
 ·rcases hk with h | h
  ·exact Nat.lt_of_lt_of_le (hT k h).2 hg.size
  ·exact h.2
 ·unfold kJc;rw[kEl true hi,kCs true h15];refine⟨fun _=>⟨a',c',kG2 hd hs,ho',fun k e=> ?_,(fun e=>absurd e (by rw[h5];decide))⟩,(fun e=>absurd e (by rw[h5];decide))⟩
  rcases hn' with h | ⟨g,h,hg2⟩
  ·rw[h]at e;cases e
  ·have hl:=(World.ownsRow.lt ho' k e).2;rw[h]at e;cases e;exact .inr ⟨hg2,hl⟩
theorem kL0 (h15:i5≠i1)(hs15:s5≠s1){o:Oper}(hd:o.dst=some s5)(hs:s5<a.tmps.size){tB:TypeId}{x:Operand}(ho:o.op= .build tB #[(0,.tmp s1),(1,x)])(hx:a.eval x=sv)(hr:∀aa ca w,(Instr.build tB #[(0,.slice aa n ca),(1,sv)]).run P w= .ok (.agg #[.slice aa n ca,sv]) w)
  (hi:i5<l.size)(h1:l.getD i1 false=true)(hJ:kJc i1 i5 s1 s5 z E n xs sv l a.tmps T w)(hT:∀k,T k→z≤k∧k<w.heap.size):
  ∃v w' T',(execOp a.eval o).run P w= .ok (.value v) w'∧Off T w w'∧kB4 T T' w w'∧(∀k,T' k→k<w'.heap.size)∧kJc i1 i5 s1 s5 z E n xs sv (l.setIfInBounds i5 true) (a.put o.dst v).tmps T' w':=by
 obtain⟨aa,ca,g1,g2,g3, -⟩:=hJ.1 h1
 refine⟨.agg #[.slice aa n ca,sv],w,T,?_,Off.refl _ _,kB4.refl _ _ _,fun k hk=>(hT k hk).2,?_⟩
 ·unfold execOp;simp only[ho,List.map_toArray,List.map_cons,List.map_nil,kCo g1,hx,Sem.run_bind,hr,Result.andThen_ok,Sem.run_pure]
 ·unfold kJc;rw[kEl true hi,kCs true h15];refine⟨fun _=>⟨aa,ca,?_,g2,g3,fun _=>kG2 hd hs⟩,fun _=>h1⟩;rw[show(a.put o.dst (.agg #[.slice aa n ca,sv])).tmps[s1]? =a.tmps[s1]? from kGo (ds:=a.defers) (by rw[hd];exact fun e=>hs15 (by simpa using e))];exact g1
theorem kMw {i s:Nat}{cs:Array Value}{ty:TypeId}{o:Oper}(hd:o.dst=some s)(hs:s<a.tmps.size)(hi:i<l.size)(hT:∀k,T k→z≤k∧k<w.heap.size)
  (hr:(execOp a.eval o).run P w= .ok (.value (.pointer (some ⟨w.heap.size,0,none⟩))) (w.alloc (.cells cs ty))):
  ∃v w' T',(execOp a.eval o).run P w= .ok (.value v) w'∧Off T w w'∧kB4 T T' w w'∧(∀k,T' k→k<w'.heap.size)∧layJ i s cs ty (l.setIfInBounds i true) (a.put o.dst v).tmps T' w':=by
 refine⟨_,_,fun k=>T k∨(w.heap.size≤k∧k<(w.alloc (.cells cs ty)).heap.size),hr,Off.alloc T w _,fun k hk=>hk,fun k hk=> ?_,?_⟩
 ·rcases hk with h | h
  ·have:=(hT k h).2;rw[World.size_alloc];omega
  ·exact h.2
 ·intro _;exact⟨w.heap.size,kG2 hd hs,jN w _,.inr ⟨Nat.le_refl _,by rw[World.size_alloc];omega⟩⟩
end
end Go.Proofs.Ytabbabkmojaoaaa
