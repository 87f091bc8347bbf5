/- several texts in one: RI WI WB WC WGP UEF -/
import Derived.Test.YtbmphakfgoompaaGreatOR
import Derived.Test.YtbmphakfgoompaaGreatOTR
import Derived.Test.YtbmphakfgoompaaGreatOTD
import Derived.Test.YtbmphakfgoompaaGreatOST
import Derived.Test.YtbmphakfgoompaaGreatO1
set_option linter.unusedVariables false
set_option linter.unusedSimpArgs false
set_option maxRecDepth 100000
set_option maxHeartbeats 16000000
namespace Go.Proofs.YtbmphakfgoompaaGreat
open Go.RowKit
def kK3 (md:Region.Mode) (ops:Array Oper) (W:List Nat) (l1:Array Bool):Nat→Array Bool→Bool
 | 0,l=>decide (l.toList=l1.toList)
 | f+1,l=> !(Region.ready md ops l).isEmpty&&(Region.ready md ops l).all (fun i=>W.contains i&&kK3 md ops W l1 f (l.setIfInBounds i true))
def kJf (o:Oper):Bool:=kCl o||match o.op with
 | .alloc .. =>true
 | _=>false
theorem kMe {P:Program}{o:Oper}(h:kJf o=true)(w:World)(ρ:Operand→Value):o.about P w ρ=none:=by
 unfold kJf at h;rw[Bool.or_eq_true]at h
 rcases h with h | h
 ·exact kDg h w ρ
 ·unfold Oper.about
  cases ho:o.op<;>rw[ho]at h<;>first | rfl | (simp at h)
theorem kMf {o:Oper}(h:kJf o=true):∀c,o.op≠ .defer c:=by
 intro c e;unfold kJf at h;rw[Bool.or_eq_true]at h
 rcases h with h | h
 ·exact kDh h c e
 ·rw[e]at h;simp at h
def kKa (ops:Array Oper) (i s:Nat):Prop:=∃o,ops[i]? =some o∧o.dst=some s
section
variable {F : Fence} {n : Nat} {P : Program} {ops : Array Oper} {Q : Exit → Act → World → Prop} {md : Region.Mode} {C : World → Prop}
theorem kFr {t:Array Value}{o:Oper}{v:Value}{ds:List Deferred}{s:Nat}(h:o.dst≠some s):(({tmps:=t,defers:=ds}:Act).put o.dst v).tmps[s]? =t[s]? :=by
 unfold Act.put
 cases hd:o.dst with
 | none=>rfl
 | some s'=>
  have:s'≠s:=fun e=>h (by rw[hd,e])
  simp only;rw[Array.getElem?_setIfInBounds,if_neg this]
theorem kSt {a:Act}{o:Oper}{v:Value}:(a.put o.dst v).tmps.size=a.tmps.size:=by
 unfold Act.put
 cases o.dst<;>simp
theorem kNv {a:Act}{o:Oper}{v:Value}:(a.put o.dst v).defers=a.defers:=by
 unfold Act.put
 cases o.dst<;>rfl
theorem kF1 {a:Act}{d:Option Tmp}{v:Value}{s:Nat}(h:d=some s)(hs:s<a.tmps.size):(a.put d v).tmps[s]? =some v:=by
 unfold Act.put;rw[h];simp only;rw[Array.getElem?_setIfInBounds,if_pos rfl,if_pos hs]
def kPa (ops:Array Oper) (W D:List Nat) (own:Nat→Nat):Bool:=
 W.all (fun i=>match ops[i]? with
  | some o=>kJf o&&(match o.dst with
   | some s=>D.contains s&&W.all (fun j=>own i==own j||(match ops[j]? with
    | some o'=>o'.dst != some s
    | none=>true))
   | none=>true)
  | none=>true)
theorem kH3 {W D:List Nat}{own:Nat→Nat}(h:kPa ops W D own=true):∀i∈W,∀o,ops[i]? =some o→kJf o=true:=fun i hi o ho=>by
 unfold kPa at h;have:=List.all_eq_true.1 h i hi;rw[ho]at this;simp only[Bool.and_eq_true]at this;exact this.1
theorem kJe {W D:List Nat}{own:Nat→Nat}(h:kPa ops W D own=true):∀i∈W,∀j∈W,own i≠own j→∀s,kKa ops i s→¬kKa ops j s:=by
 rintro i hi j hj hij s ⟨o,ho,hs⟩ ⟨o',ho',hs'⟩;unfold kPa at h;have:=List.all_eq_true.1 h i hi;rw[ho]at this;simp only[Bool.and_eq_true,hs]at this;have:=List.all_eq_true.1 this.2.2 j hj;rw[ho']at this;simp[hij,hs']at this
theorem kDy {W D:List Nat}{own:Nat→Nat}(h:kPa ops W D own=true){s:Nat}(hs:s∉D):∀j∈W,¬kKa ops j s:=by
 rintro i hi ⟨o,ho,hd⟩;unfold kPa at h;have:=List.all_eq_true.1 h i hi;rw[ho]at this;simp only[Bool.and_eq_true,hd]at this;exact hs (by simpa using this.2.1)
theorem kHr (W M:List Nat)(own:Nat→Nat)(J:Nat→Array Bool→Array Value→(Nat→Prop)→World→Prop)(z:Nat)(w0:World)(t0:Array Value)(ds:List Deferred)(l1:Array Bool)(g:Nat)
  (hcalm:∀i∈W,∀o,ops[i]? =some o→kJf o=true)
  (hown:∀i∈W,∀j∈W,own i≠own j→∀s,kKa ops i s→¬kKa ops j s)
  (hC:∀w,Below z w0 w→C w)
  (hloc:∀c l l' t t' T w w',J c l t T w→(∀i∈W,own i=c→l'.getD i false=l.getD i false)→(∀i∈W,own i=c→∀s,kKa ops i s→t'[s]? =t[s]?)→w.heap.size≤w'.heap.size→(∀k,T k→w'.heap[k]? =w.heap[k]?)→J c l' t' T w')
  (hstep:∀i∈W,∀o,ops[i]? =some o→∀(l:Array Bool) (a:Act) (T:Nat→Prop) (w:World),i<l.size→l.getD i true=false→J (own i) l a.tmps T w→(∀e∈o.after,Region.binds md e=true→l.getD e.on false=true)→a.tmps.size=t0.size→(∀s,(∀j∈W,¬kKa ops j s)→a.tmps[s]? =t0[s]?)→Below z w0 w→z≤w.heap.size→(∀k,T k→z≤k∧k<w.heap.size)→
   Region.wanted o (yielded ops a.tmps)=true∧∃v w' T',(execOp a.eval o).run P w= .ok (.value v) w'∧Off T w w'∧kB4 T T' w w'∧(∀k,T' k→k<w'.heap.size)∧J (own i) (l.setIfInBounds i true) (a.put o.dst v).tmps T' w')
  (hend:∀(a:Act) (w:World) (T:Nat→Nat→Prop),a.defers=ds→(∀c,J c l1 a.tmps (T c) w)→a.tmps.size=t0.size→(∀s,(∀j∈W,¬kKa ops j s)→a.tmps[s]? =t0[s]?)→Below z w0 w→z≤w.heap.size→(∀c k,T c k→z≤k∧k<w.heap.size)→(∀c d k,c≠d→T c k→¬T d k)→kF9 F n P md ops Q M C g l1 a w):
  ∀(f:Nat) (l:Array Bool) (a:Act) (w:World) (T:Nat→Nat→Prop),kK3 md ops W l1 f l=true→a.defers=ds→(∀c,J c l a.tmps (T c) w)→a.tmps.size=t0.size→(∀s,(∀j∈W,¬kKa ops j s)→a.tmps[s]? =t0[s]?)→Below z w0 w→z≤w.heap.size→
   (∀c k,T c k→z≤k∧k<w.heap.size)→(∀c d k,c≠d→T c k→¬T d k)→kF9 F n P md ops Q M C (f+g) l a w:=by
 intro f
 induction f with
 | zero=>
  intro l a w T hx hd hJ hz ho hb hzz hT hdj
  have:l=l1:=by
   unfold kK3 at hx;exact Array.toList_inj.1 (of_decide_eq_true hx)
  subst this;rw[Nat.zero_add];exact hend a w T hd hJ hz ho hb hzz hT hdj
 | succ f ih=>
  intro l a w T hx hd hJ hz ho hb hzz hT hdj;unfold kK3 at hx;simp only[Bool.and_eq_true,Bool.not_eq_true',List.all_eq_true]at hx;obtain⟨hne,hall⟩:=hx;rw[show f+1+g=(f+g)+1 by omega];refine⟨fun h0=>(by rw[h0]at hne;simp at hne),fun i hi=> ?_⟩;obtain⟨hiW,hx'⟩:=hall i hi
  have hiW:i∈W:=by simpa using hiW
  obtain⟨hun,o,hoi,haft⟩:=mem_ready.1 hi
  have hisz:i<l.size:=by
   by_cases h:i<l.size
   ·exact h
   ·rw[Array.getD_eq_getD_getElem?,Array.getElem?_eq_none (by omega)]at hun;cases hun
  obtain⟨hw,v,w',T',hex,hoff,hwid,hTs,hJ'⟩:=hstep i hiW o hoi l a (T (own i)) w hisz hun (hJ _) haft hz ho hb hzz (fun k hk=>hT _ k hk);have hc:=hcalm i hiW o hoi;have hb':Below z w0 w':=hb.trans ⟨hoff.os,hoff.tape,hoff.output,hoff.size,fun k hk=>hoff.block k (by omega) (fun h=>by have:=(hT _ k h).1;omega)⟩;unfold wpOpIn;simp only[hoi,hw,if_true,Oper.wpIn];refine⟨fun f hf=>(by rw[kMe hc]at hf;cases hf),?_⟩;rw[Oper.semAt_eq _ _ _ (kMf hc),hex];refine⟨fun _=>hC _ hb',?_⟩
  have hdi:kKa ops i=fun s=>o.dst=some s:=by
   funext s
   apply propext
   exact⟨fun⟨o',h1,h2⟩=>by rw[hoi]at h1;cases h1;exact h2,fun h=>⟨o,hoi,h⟩⟩
  refine ih (l.setIfInBounds i true) (a.put o.dst v) w' (fun c=>if c=own i then T' else T c) hx' (by rw[kNv];exact hd) (fun c=> ?_) (by rw[kSt];exact hz) (fun s hs=> ?_) hb' (Nat.le_trans hzz hoff.size) (fun c k hk=> ?_) (fun c d k hcd hc1 hd1=> ?_)
  ·by_cases hc:c=own i
   ·subst hc;rw[if_pos rfl];exact hJ'
   ·rw[if_neg hc]
    refine hloc c l _ a.tmps _ (T c) w w' (hJ c) (fun j hj hjc=> ?_) (fun j hj hjc s hs=> ?_) hoff.size (fun k hk=> ?_)
    ·have:i≠j:=fun e=>hc (by rw[←hjc,e])
     rw[Array.getD_eq_getD_getElem?,Array.getElem?_setIfInBounds,if_neg this,←Array.getD_eq_getD_getElem?]
    ·have h1:=hown i hiW j hj (fun e=>hc (by rw[←hjc,←e])) s;refine kFr (ds:=a.defers) (fun e=> ?_);exact h1 (by rw[hdi];exact e) hs
    ·exact hoff.block k (hT c k hk).2 (fun h=>hdj c (own i) k hc hk h)
  ·rw[show(a.put o.dst v).tmps[s]? =a.tmps[s]? from kFr (ds:=a.defers) (fun e=>hs i hiW (by rw[hdi];exact e))];exact ho s hs
  ·split at hk
   ·refine⟨?_,hTs k hk⟩
    rcases hwid k hk with h | h
    ·exact(hT _ k h).1
    ·omega
   ·have:=hT c k hk;exact⟨this.1,Nat.lt_of_lt_of_le this.2 hoff.size⟩
  ·split at hc1
   ·rename_i e1
    rw[if_neg (fun e=>hcd (by rw[e1,e]))]at hd1
    rcases hwid k hc1 with h | h
    ·exact hdj _ d k (fun e=>hcd (by rw[e1,e])) h hd1
    ·have:=(hT d k hd1).2;omega
   ·rename_i e1
    split at hd1
    ·rcases hwid k hd1 with h | h
     ·exact hdj c (own i) k e1 hc1 h
     ·have:=(hT c k hc1).2;omega
    ·exact hdj c d k hcd hc1 hd1
end
theorem kBx {a:Act}{s:Nat}{v:Value}(h:a.tmps[s]? =some v):a.eval (.tmp s)=v:=by
 simp[Act.eval,Array.getD_eq_getD_getElem?,h]
theorem kGj {l:Array Bool}{i:Nat}(h:l.getD i true=false):l.getD i false=false:=by
 simp only[Array.getD_eq_getD_getElem?]at h ⊢
 cases hl:l[i]? with
 | none=>rfl
 | some b=>rw[hl]at h;simpa using h
theorem kB1 {l:Array Bool}{i j:Nat}(b:Bool)(h:i≠j):(l.setIfInBounds i b).getD j false=l.getD j false:=by
 rw[Array.getD_eq_getD_getElem?,Array.getElem?_setIfInBounds,if_neg h,←Array.getD_eq_getD_getElem?]
theorem kDi {l:Array Bool}{i:Nat}(b:Bool)(h:i<l.size):(l.setIfInBounds i b).getD i false=b:=by
 rw[Array.getD_eq_getD_getElem?,Array.getElem?_setIfInBounds,if_pos rfl,if_pos h];rfl
theorem kHv {P:Program}{t e:TypeId}{z:Value}{size bytes:Nat}(el:kFh P t e z size bytes){w:World}{o:Oper}{act:Act}(s x:Operand)
  (ho:o.op= .call {callee:= .builtin .append,args:= #[s,x],argTypes:= #[t,t]}){B:Nat}{a:Option Addr}{n cap:Nat}{xs:List Value}(hown:w.ownsRow B e size (.slice a n cap) n xs)(hB:B≤w.heap.size)
  {a2:Option Addr}{m c:Nat}{ys:List Value}(hys:ys.length=m*size)(hsrc:∀j v,ys[j]? =some v→∃ad,a2=some ad∧w.cell? (ad.add j)=some v)(hnone:a2=none→c=0)(hone:∀u∈ys,u.oneCell'=true)(hn:(n+m)*bytes≤140737488355328)(hm:n+m≤maxLen)
  (hs:act.eval s= .slice a n cap)(hx:act.eval x= .slice a2 m c):
  ∃a' cap' w',(execOp act.eval o).run P w= .ok (.value (.slice a' (n+m) cap')) w'∧w'.ownsRow B e size (.slice a' (n+m) cap') (n+m) (xs++ys)∧w.grownBy w' (Value.slice a n cap).ownBlock∧kBe w (.slice a n cap) (.slice a' (n+m) cap'):=by
 obtain⟨i,hi,hz,h1,hb⟩:=info_parts el.inf;have hp:=el.pos
 cases a2 with
 | none=>
  have hy0:ys=[]:=by
   cases ys with
   | nil=>rfl
   | cons y t=>obtain⟨ad,hbad,_⟩:=hsrc 0 y (by simp);simp at hbad
  subst hy0
  have hm0:m=0:=by
   rcases Nat.mul_eq_zero.1 (by simpa using hys.symm)with h | h
   ·exact h
   ·omega
  subst hm0;have hc:=hnone rfl;subst hc;have hr:=run_append_owned_none (P:=P) w B t o.type e i size el.und hi _ n xs hown;refine⟨a,cap,w,?_,by simpa using hown,⟨rfl,rfl,rfl,Nat.le_refl _,fun _ _ _=>rfl⟩,.inl rfl⟩;unfold execOp;simp only[ho,resolve,invoke,builtin,Sem.run_bind,Sem.run_pure,Result.andThen_ok,List.map_toArray,List.map_cons,List.map_nil,hs,hx,hr]
  rfl
 | some ad=>
  have hcell:∀j v,ys[j]? =some v→w.cell? (ad.add j)=some v:=by
   intro j v hv;obtain⟨ad',h3,h4⟩:=hsrc j v hv;obtain rfl:=Option.some.inj h3;exact h4
  obtain⟨v',w',hr,h2,h3,h4⟩:=kGp (P:=P) w B t o.type e i z size bytes el.und hi hz h1 hb el.sz el.pos _ n xs hown ad m c ys hys hcell hone hm hn hB
  have hv':∃a' cap',v'= .slice a' (n+m) cap':=by
   rcases h2.2 with⟨rfl,h0⟩ | ⟨g,cap',cur,rfl,_⟩
   ·exact⟨none,0,by rw[h0]⟩
   ·exact⟨_,_,rfl⟩
  obtain⟨a',cap',rfl⟩:=hv';refine⟨a',cap',w',?_,h2,h3,h4⟩;unfold execOp;simp only[ho,resolve,invoke,builtin,Sem.run_bind,Sem.run_pure,Result.andThen_ok,List.map_toArray,List.map_cons,List.map_nil,hs,hx,hr]
def kM3 (i1 i2 i3 s1 s2 s3 z:Nat) (E:TypeId) (n:Nat) (xs:List Value) (r:Value) (l:Array Bool) (t:Array Value) (T:Nat→Prop) (w:World):Prop:=
 (l.getD i1 false=true→l.getD i3 false=false→∃a c,t[s1]? =some (.slice a n c)∧w.ownsRow z E 1 (.slice a n c) n xs∧∀k,(Value.slice a n c).ownBlock=some k→T k)∧
 (l.getD i2 false=true→l.getD i3 false=false→∃b,t[s2]? =some (.slice (some ⟨b,0,none⟩) 1 1)∧w.cell? ⟨b,0,none⟩=some r∧T b)∧
 (l.getD i3 false=true→∃a c,t[s3]? =some (.slice a (n+1) c)∧w.ownsRow z E 1 (.slice a (n+1) c) (n+1) (xs++[r])∧∀k,(Value.slice a (n+1) c).ownBlock=some k→T k)∧
 (l.getD i3 false=true→l.getD i1 false=true∧l.getD i2 false=true)
theorem kH8 {B s:Nat}{E:TypeId}{w w':World}{a:Option Addr}{n c:Nat}{xs:List Value}(h:w.ownsRow B E s (.slice a n c) n xs)(hk:∀k,(Value.slice a n c).ownBlock=some k→w'.heap[k]? =w.heap[k]?):w'.ownsRow B E s (.slice a n c) n xs:=by
 refine⟨h.1,?_⟩
 rcases h.2 with hn | ⟨g,cap,cur,e,hb,hg,rest⟩
 ·exact .inl hn
 ·exact .inr ⟨g,cap,cur,e,hb,by rw[hk g (by rw[e];rfl)];exact hg,rest⟩
theorem kIs {i1 i2 i3 s1 s2 s3 z:Nat}{E:TypeId}{n:Nat}{xs:List Value}{r:Value}{l l':Array Bool}{t t':Array Value}{T:Nat→Prop}{w w':World}(h:kM3 i1 i2 i3 s1 s2 s3 z E n xs r l t T w)
  (h1:l'.getD i1 false=l.getD i1 false)(h2:l'.getD i2 false=l.getD i2 false)(h3:l'.getD i3 false=l.getD i3 false)(k1:t'[s1]? =t[s1]?)(k2:t'[s2]? =t[s2]?)(k3:t'[s3]? =t[s3]?)(hk:∀k,T k→w'.heap[k]? =w.heap[k]?):kM3 i1 i2 i3 s1 s2 s3 z E n xs r l' t' T w':=by
 unfold kM3 at h ⊢;rw[h1,h2,h3,k1,k2,k3]
 refine⟨fun e1 e2=> ?_,fun e1 e2=> ?_,fun e1=> ?_,h.2.2.2⟩
 ·obtain⟨a,c,g1,g2,g3⟩:=h.1 e1 e2;exact⟨a,c,g1,kH8 g2 (fun k e=>hk k (g3 k e)),g3⟩
 ·obtain⟨b,g1,g2,g3⟩:=h.2.1 e1 e2;exact⟨b,g1,by rw[World.cell?_of_block (w:=w) (a:=⟨b,0,none⟩) (hk b g3)];exact g2,g3⟩
 ·obtain⟨a,c,g1,g2,g3⟩:=h.2.2.1 e1;exact⟨a,c,g1,kH8 g2 (fun k e=>hk k (g3 k e)),g3⟩
theorem kFp {T:Nat→Prop}{w w':World}{row:Option Nat}(h:w.grownBy w' row)(hr:∀k,row=some k→T k):Off T w w':=⟨h.os,h.tape,h.output,h.size,fun k hk hT=>h.block k hk (fun e=>hT (hr k e.symm))⟩
section
variable {P : Program} {tS E : TypeId} {zv : Value} {bytes : Nat} {i1 i2 i3 s1 s2 s3 z : Nat} {n : Nat} {xs : List Value} {r : Value} {l : Array Bool} {a : Act} {T : Nat → Prop} {w : World}
theorem kIt (el:kFh P tS E zv 1 bytes)(h12:i1≠i2)(h13:i1≠i3)(hs12:s1≠s2){o:Oper}(hd:o.dst=some s1)(hs:s1<a.tmps.size){x:Operand}(ho:o.op= .call {callee:= .builtin .append,args:= #[.const (.slice none 0 0),x],argTypes:= #[tS,tS]})
  (hi:i1<l.size)(hu:l.getD i1 true=false)(hJ:kM3 i1 i2 i3 s1 s2 s3 z E n xs r l a.tmps T w)(hz:z≤w.heap.size)(hT:∀k,T k→z≤k∧k<w.heap.size)
  {ax:Option Addr}{cx:Nat}(hx:a.eval x= .slice ax n cx)(hxs:xs.length=n)(hsrc:∀j v,xs[j]? =some v→∃ad,ax=some ad∧w.cell? (ad.add j)=some v)(hnone:ax=none→cx=0)(hone:∀u∈xs,u.oneCell'=true)(hn:n*bytes≤140737488355328)(hm:n≤maxLen):
  ∃v w' T',(execOp a.eval o).run P w= .ok (.value v) w'∧Off T w w'∧kB4 T T' w w'∧(∀k,T' k→k<w'.heap.size)∧kM3 i1 i2 i3 s1 s2 s3 z E n xs r (l.setIfInBounds i1 true) (a.put o.dst v).tmps T' w':=by
 have h3:l.getD i3 false=false:=by
  cases h:l.getD i3 false with
  | false=>rfl
  | true=>have:=(hJ.2.2.2 h).1;rw[kGj hu]at this;cases this
 obtain⟨a',c',w',hr,ho',hg,hn'⟩:=kHv el (act:=a) (.const (.slice none 0 0)) x ho (World.ownsRow_nil w z E 1) hz (ys:=xs) (by simpa using hxs) hsrc hnone hone (by simpa using hn) (by simpa using hm) rfl hx;rw[Nat.zero_add]at hr ho' hn';rw[List.nil_append]at ho';have hoff:Off T w w':=kFp hg (fun k e=>by cases e)
 refine⟨_,w',fun k=>T k∨(w.heap.size≤k∧k<w'.heap.size),hr,hoff,fun k hk=>hk,fun k hk=> ?_,?_⟩
 ·rcases hk with h | h
  ·exact Nat.lt_of_lt_of_le (hT k h).2 hg.size
  ·exact h.2
 ·unfold kM3;rw[kDi true hi,kB1 true h12,kB1 true h13]
  refine⟨fun _ _=>⟨a',c',kF1 hd hs,ho',fun k e=> ?_⟩,fun e1 e2=> ?_,(fun e=>by rw[h3]at e;cases e),(fun e=>by rw[h3]at e;cases e)⟩
  ·rcases hn' with h | ⟨g,h,hg2⟩
   ·rw[h]at e;cases e
   ·have hl:=(World.ownsRow.lt ho' k e).2;rw[h]at e;cases e;exact .inr ⟨hg2,hl⟩
  ·obtain⟨b,g1,g2,g3⟩:=hJ.2.1 e1 e2
   refine⟨b,?_,?_,.inl g3⟩
   ·rw[show(a.put o.dst (.slice a' n c')).tmps[s2]? =a.tmps[s2]? from kFr (ds:=a.defers) (by rw[hd];exact fun e=>hs12 (by simpa using e))];exact g1
   ·rw[World.cell?_of_block (w:=w) (a:=⟨b,0,none⟩) (hg.block b (hT b g3).2 (fun e=>by cases e))];exact g2
theorem kIu (h12:i2≠i1)(h23:i2≠i3)(hs12:s2≠s1){o:Oper}(hd:o.dst=some s2)(hs:s2<a.tmps.size)(hi:i2<l.size)(hu:l.getD i2 true=false)(hJ:kM3 i1 i2 i3 s1 s2 s3 z E n xs r l a.tmps T w)(hz:z≤w.heap.size)(hT:∀k,T k→z≤k∧k<w.heap.size)
  (hr:(execOp a.eval o).run P w= .ok (.value (.slice (some ⟨w.heap.size,0,none⟩) 1 1)) (w.alloc (.cells #[r] E))):
  ∃v w' T',(execOp a.eval o).run P w= .ok (.value v) w'∧Off T w w'∧kB4 T T' w w'∧(∀k,T' k→k<w'.heap.size)∧kM3 i1 i2 i3 s1 s2 s3 z E n xs r (l.setIfInBounds i2 true) (a.put o.dst v).tmps T' w':=by
 have h3:l.getD i3 false=false:=by
  cases h:l.getD i3 false with
  | false=>rfl
  | true=>have:=(hJ.2.2.2 h).2;rw[kGj hu]at this;cases this
 refine⟨_,_,fun k=>T k∨(w.heap.size≤k∧k<(w.alloc (.cells #[r] E)).heap.size),hr,Off.alloc T w _,fun k hk=>hk,fun k hk=> ?_,?_⟩
 ·rcases hk with h | h
  ·have:=(hT k h).2;rw[World.size_alloc];omega
  ·exact h.2
 ·unfold kM3;rw[kDi true hi,kB1 true h12,kB1 true h23];refine⟨fun e1 e2=> ?_,fun _ _=>⟨w.heap.size,kF1 hd hs,jK _ w.heap.size 0 _ _ (0,0) (jN w _),.inr ⟨Nat.le_refl _,by rw[World.size_alloc];omega⟩⟩,(fun e=>by rw[h3]at e;cases e),(fun e=>by rw[h3]at e;cases e)⟩;obtain⟨a',c',g1,g2,g3⟩:=hJ.1 e1 e2;refine⟨a',c',?_,World.ownsRow.alloc g2 _,fun k e=> .inl (g3 k e)⟩;rw[show(a.put o.dst (.slice (some ⟨w.heap.size,0,none⟩) 1 1)).tmps[s1]? =a.tmps[s1]? from kFr (ds:=a.defers) (by rw[hd];exact fun e=>hs12 (by simpa using e))];exact g1
theorem kFw (el:kFh P tS E zv 1 bytes)(h13:i3≠i1)(h23:i3≠i2){o:Oper}(hd:o.dst=some s3)(hs:s3<a.tmps.size)(ho:o.op= .call {callee:= .builtin .append,args:= #[.tmp s1,.tmp s2],argTypes:= #[tS,tS]})
  (hi:i3<l.size)(h1:l.getD i1 false=true)(h2:l.getD i2 false=true)(h3:l.getD i3 false=false)(hJ:kM3 i1 i2 i3 s1 s2 s3 z E n xs r l a.tmps T w)(hz:z≤w.heap.size)(hT:∀k,T k→z≤k∧k<w.heap.size)
  (hone:r.oneCell'=true)(hn:(n+1)*bytes≤140737488355328)(hm:n+1≤maxLen):
  ∃v w' T',(execOp a.eval o).run P w= .ok (.value v) w'∧Off T w w'∧kB4 T T' w w'∧(∀k,T' k→k<w'.heap.size)∧kM3 i1 i2 i3 s1 s2 s3 z E n xs r (l.setIfInBounds i3 true) (a.put o.dst v).tmps T' w':=by
 obtain⟨aa,ca,g1,g2,g3⟩:=hJ.1 h1 h3;obtain⟨b,k1,k2,k3⟩:=hJ.2.1 h2 h3
 obtain⟨a',c',w',hr,ho',hg,hn'⟩:=kHv el (act:=a) (.tmp s1) (.tmp s2) ho g2 hz (a2:=some ⟨b,0,none⟩) (m:=1) (c:=1) (ys:=[r]) rfl (fun j v hv=>by
  cases j with
  | zero=>simp at hv;subst hv;exact⟨_,rfl,by rw[Addr.add_lit];exact k2⟩
  | succ j=>simp at hv) (fun e=>by cases e) (fun u hu=>by simp at hu;subst hu;exact hone) hn hm (kBx g1) (kBx k1)
 have hoff:Off T w w':=kFp hg g3
 refine⟨_,w',fun k=>T k∨(w.heap.size≤k∧k<w'.heap.size),hr,hoff,fun k hk=>hk,fun k hk=> ?_,?_⟩
 ·rcases hk with h | h
  ·exact Nat.lt_of_lt_of_le (hT k h).2 hg.size
  ·exact h.2
 ·unfold kM3;rw[kDi true hi,kB1 true h13,kB1 true h23];refine⟨(fun _ e=>by cases e),(fun _ e=>by cases e),fun _=>⟨a',c',kF1 hd hs,ho',fun k e=> ?_⟩,fun _=>⟨h1,h2⟩⟩
  rcases hn' with h | ⟨g,h,hg2⟩
  ·rw[h]at e;exact .inl (g3 k e)
  ·have hl:=(World.ownsRow.lt ho' k e).2;rw[h]at e;cases e;exact .inr ⟨hg2,hl⟩
end
theorem kK5 {t t0:Array Value}(D:List Nat)(hz:t.size=t0.size)(ho:∀s,s∉D→t[s]? =t0[s]?):t=D.foldl (fun u s=>u.setIfInBounds s (t.getD s undef)) t0:=by
 have key:∀(D:List Nat) (u:Array Value),u.size=t.size→(D.foldl (fun u s=>u.setIfInBounds s (t.getD s undef)) u).size=t.size∧∀s,(D.foldl (fun u s=>u.setIfInBounds s (t.getD s undef)) u)[s]? =if s∈D then t[s]? else u[s]? :=by
  intro D
  induction D with
  | nil=>intro u hu;exact⟨hu,fun s=>by simp⟩
  | cons d D ih=>
   intro u hu;rw[List.foldl_cons];obtain⟨h1,h2⟩:=ih (u.setIfInBounds d (t.getD d undef)) (by simpa using hu);refine⟨h1,fun s=> ?_⟩;rw[h2 s]
   by_cases hs:s∈D
   ·rw[if_pos hs,if_pos (List.mem_cons_of_mem _ hs)]
   ·rw[if_neg hs,Array.getElem?_setIfInBounds]
    by_cases hd:d=s
    ·subst hd;rw[if_pos rfl]
     by_cases h:d<u.size
     ·rw[if_pos h,if_pos (List.mem_cons_self ..),Array.getD_eq_getD_getElem?,Array.getElem?_eq_getElem (by omega)];rfl
     ·rw[if_neg h,if_pos (List.mem_cons_self ..),Array.getElem?_eq_none (by omega)]
    ·rw[if_neg hd,if_neg (by simp;exact⟨fun e=>hd e.symm,hs⟩)]
 apply Array.ext_getElem?
 intro s;rw[(key D t0 hz.symm).2 s]
 by_cases hs:s∈D
 ·rw[if_pos hs]
 ·rw[if_neg hs];exact ho s hs
def kJ6 (i1 i5 s1 s5 z:Nat) (E:TypeId) (n:Nat) (xs:List Value) (sv:Value) (l:Array Bool) (t:Array Value) (T:Nat→Prop) (w:World):Prop:=
 (l.getD i1 false=true→∃a c,t[s1]? =some (.slice a n c)∧w.ownsRow z E 1 (.slice a n c) n xs∧(∀k,(Value.slice a n c).ownBlock=some k→T k)∧(l.getD i5 false=true→t[s5]? =some (.agg #[.slice a n c,sv])))∧
 (l.getD i5 false=true→l.getD i1 false=true)
theorem kP8 {i1 i5 s1 s5 z:Nat}{E:TypeId}{n:Nat}{xs:List Value}{sv:Value}{l l':Array Bool}{t t':Array Value}{T:Nat→Prop}{w w':World}(h:kJ6 i1 i5 s1 s5 z E n xs sv l t T w)
  (h1:l'.getD i1 false=l.getD i1 false)(h5:l'.getD i5 false=l.getD i5 false)(k1:t'[s1]? =t[s1]?)(k5:t'[s5]? =t[s5]?)(hk:∀k,T k→w'.heap[k]? =w.heap[k]?):kJ6 i1 i5 s1 s5 z E n xs sv l' t' T w':=by
 unfold kJ6 at h ⊢;rw[h1,h5,k1,k5];refine⟨fun e1=> ?_,h.2⟩;obtain⟨a,c,g1,g2,g3,g4⟩:=h.1 e1;exact⟨a,c,g1,kH8 g2 (fun k e=>hk k (g3 k e)),g3,g4⟩
def layJ (i s:Nat) (cs:Array Value) (ty:TypeId) (l:Array Bool) (t:Array Value) (T:Nat→Prop) (w:World):Prop:=
 l.getD i false=true→∃b,t[s]? =some (.pointer (some ⟨b,0,none⟩))∧w.heap[b]? =some (.cells cs ty (0,0))∧T b
theorem kSg {i s:Nat}{cs:Array Value}{ty:TypeId}{l l':Array Bool}{t t':Array Value}{T:Nat→Prop}{w w':World}(h:layJ i s cs ty l t T w)(h1:l'.getD i false=l.getD i false)(k1:t'[s]? =t[s]?)(hk:∀k,T k→w'.heap[k]? =w.heap[k]?):layJ i s cs ty l' t' T w':=by
 unfold layJ at h ⊢;rw[h1,k1];intro e;obtain⟨b,g1,g2,g3⟩:=h e;exact⟨b,g1,by rw[hk b g3];exact g2,g3⟩
section
variable {P : Program} {tS E : TypeId} {zv : Value} {bytes : Nat} {i1 i5 s1 s5 z : Nat} {n : Nat} {xs : List Value} {sv : Value} {l : Array Bool} {a : Act} {T : Nat → Prop} {w : World}
theorem kP9 (el:kFh P tS E zv 1 bytes)(h15:i1≠i5){o:Oper}(hd:o.dst=some s1)(hs:s1<a.tmps.size){x:Operand}(ho:o.op= .call {callee:= .builtin .append,args:= #[.const (.slice none 0 0),x],argTypes:= #[tS,tS]})
  (hi:i1<l.size)(hu:l.getD i1 true=false)(hJ:kJ6 i1 i5 s1 s5 z E n xs sv l a.tmps T w)(hz:z≤w.heap.size)(hT:∀k,T k→z≤k∧k<w.heap.size)
  {ax:Option Addr}{cx:Nat}(hx:a.eval x= .slice ax n cx)(hxs:xs.length=n)(hsrc:∀j v,xs[j]? =some v→∃ad,ax=some ad∧w.cell? (ad.add j)=some v)(hnone:ax=none→cx=0)(hone:∀u∈xs,u.oneCell'=true)(hn:n*bytes≤140737488355328)(hm:n≤maxLen):
  ∃v w' T',(execOp a.eval o).run P w= .ok (.value v) w'∧Off T w w'∧kB4 T T' w w'∧(∀k,T' k→k<w'.heap.size)∧kJ6 i1 i5 s1 s5 z E n xs sv (l.setIfInBounds i1 true) (a.put o.dst v).tmps T' w':=by
 have h5:l.getD i5 false=false:=by
  cases h:l.getD i5 false with
  | false=>rfl
  | true=>have:=hJ.2 h;rw[kGj hu]at this;cases this
 obtain⟨a',c',w',hr,ho',hg,hn'⟩:=kHv el (act:=a) (.const (.slice none 0 0)) x ho (World.ownsRow_nil w z E 1) hz (ys:=xs) (by simpa using hxs) hsrc hnone hone (by simpa using hn) (by simpa using hm) rfl hx;rw[Nat.zero_add]at hr ho' hn';rw[List.nil_append]at ho'
 refine⟨_,w',fun k=>T k∨(w.heap.size≤k∧k<w'.heap.size),hr,kFp hg (fun k e=>by cases e),fun k hk=>hk,fun k hk=> ?_,?_⟩
 ·rcases hk with h | h
  ·exact Nat.lt_of_lt_of_le (hT k h).2 hg.size
  ·exact h.2
 ·unfold kJ6;rw[kDi true hi,kB1 true h15];refine⟨fun _=>⟨a',c',kF1 hd hs,ho',fun k e=> ?_,(fun e=>absurd e (by rw[h5];decide))⟩,(fun e=>absurd e (by rw[h5];decide))⟩
  rcases hn' with h | ⟨g,h,hg2⟩
  ·rw[h]at e;cases e
  ·have hl:=(World.ownsRow.lt ho' k e).2;rw[h]at e;cases e;exact .inr ⟨hg2,hl⟩
theorem kQa (h15:i5≠i1)(hs15:s5≠s1){o:Oper}(hd:o.dst=some s5)(hs:s5<a.tmps.size){tB:TypeId}{x:Operand}(ho:o.op= .build tB #[(0,.tmp s1),(1,x)])(hx:a.eval x=sv)(hr:∀aa ca w,(Instr.build tB #[(0,.slice aa n ca),(1,sv)]).run P w= .ok (.agg #[.slice aa n ca,sv]) w)
  (hi:i5<l.size)(h1:l.getD i1 false=true)(hJ:kJ6 i1 i5 s1 s5 z E n xs sv l a.tmps T w)(hT:∀k,T k→z≤k∧k<w.heap.size):
  ∃v w' T',(execOp a.eval o).run P w= .ok (.value v) w'∧Off T w w'∧kB4 T T' w w'∧(∀k,T' k→k<w'.heap.size)∧kJ6 i1 i5 s1 s5 z E n xs sv (l.setIfInBounds i5 true) (a.put o.dst v).tmps T' w':=by
 obtain⟨aa,ca,g1,g2,g3, -⟩:=hJ.1 h1
 refine⟨.agg #[.slice aa n ca,sv],w,T,?_,Off.refl _ _,kB4.refl _ _ _,fun k hk=>(hT k hk).2,?_⟩
 ·unfold execOp;simp only[ho,List.map_toArray,List.map_cons,List.map_nil,kBx g1,hx,Sem.run_bind,hr,Result.andThen_ok,Sem.run_pure]
 ·unfold kJ6;rw[kDi true hi,kB1 true h15];refine⟨fun _=>⟨aa,ca,?_,g2,g3,fun _=>kF1 hd hs⟩,fun _=>h1⟩;rw[show(a.put o.dst (.agg #[.slice aa n ca,sv])).tmps[s1]? =a.tmps[s1]? from kFr (ds:=a.defers) (by rw[hd];exact fun e=>hs15 (by simpa using e))];exact g1
theorem kSh {i s:Nat}{cs:Array Value}{ty:TypeId}{o:Oper}(hd:o.dst=some s)(hs:s<a.tmps.size)(hi:i<l.size)(hT:∀k,T k→z≤k∧k<w.heap.size)
  (hr:(execOp a.eval o).run P w= .ok (.value (.pointer (some ⟨w.heap.size,0,none⟩))) (w.alloc (.cells cs ty))):
  ∃v w' T',(execOp a.eval o).run P w= .ok (.value v) w'∧Off T w w'∧kB4 T T' w w'∧(∀k,T' k→k<w'.heap.size)∧layJ i s cs ty (l.setIfInBounds i true) (a.put o.dst v).tmps T' w':=by
 refine⟨_,_,fun k=>T k∨(w.heap.size≤k∧k<(w.alloc (.cells cs ty)).heap.size),hr,Off.alloc T w _,fun k hk=>hk,fun k hk=> ?_,?_⟩
 ·rcases hk with h | h
  ·have:=(hT k h).2;rw[World.size_alloc];omega
  ·exact h.2
 ·intro _;exact⟨w.heap.size,kF1 hd hs,jN w _,.inr ⟨Nat.le_refl _,by rw[World.size_alloc];omega⟩⟩
end
end Go.Proofs.YtbmphakfgoompaaGreat

namespace Go.Proofs.YtbmphakfgoompaaGreat
open Go.RowKit
attribute [local go_sem] Oper.semAt_some
def kC0 (w:World) (fv:Value) (L:List (Int×Int)):Prop:=
 ∃aT cT aV cV,fv= .agg #[.slice aT L.length cT,.slice aV L.length cV]∧Ints .i32 w aT (L.map (·.1))∧Ints .i64 w aV (L.map (·.2))∧(aT=none→cT=0)∧(aV=none→cV=0)
theorem kC0.below {w w':World}{fv:Value}{L:List (Int×Int)}(h:kC0 w fv L)(hb:Below w.heap.size w w'):kC0 w' fv L:=by
 obtain⟨aT,cT,aV,cV,h1,h2,h3,h4,h5⟩:=h;exact⟨aT,cT,aV,cV,h1,h2.below hb jR,h3.below hb jR,h4,h5⟩
def kLz (B:Nat) (fv:Value):Prop:=∃aT nT cT aV nV cV,fv= .agg #[.slice aT nT cT,.slice aV nV cV]∧(∀x,aT=some x→B≤x.block)∧∀x,aV=some x→B≤x.block
theorem kLz.nil (B:Nat):kLz B (.agg #[.slice none 0 0,.slice none 0 0]):=⟨none,0,0,none,0,0,rfl,fun x e=>(by cases e),fun x e=>(by cases e)⟩
theorem kLz.mono {B B':Nat}{fv:Value}(h:kLz B fv)(hb:B'≤B):kLz B' fv:=by
 obtain⟨aT,nT,cT,aV,nV,cV,e,h1,h2⟩:=h;exact⟨aT,nT,cT,aV,nV,cV,e,fun x e=>Nat.le_trans hb (h1 x e),fun x e=>Nat.le_trans hb (h2 x e)⟩
theorem kLz.two {B:Nat}{aT:Option Addr}{nT cT:Nat}{aV:Option Addr}{nV cV:Nat}(h:kLz B (.agg #[.slice aT nT cT,.slice aV nV cV])):(∀x,aT=some x→B≤x.block)∧∀x,aV=some x→B≤x.block:=by
 obtain⟨_,_,_,_,_,_,e,h1,h2⟩:=h;simp at e;obtain⟨⟨rfl, -, -⟩,rfl, -, -⟩:=e;exact⟨h1,h2⟩
theorem kLi {B:Nat}{E:TypeId}{w:World}{a:Option Addr}{n c:Nat}{xs:List Value}(h:Own B E w a n c xs):∀x,a=some x→B≤x.block:=by
 rintro x rfl
 rcases h.2 with⟨e,h0⟩ | ⟨g,cap',cur,e,hb, -⟩
 ·simp at e
 ·simp only[Value.slice.injEq,Option.some.injEq]at e;rw[e.1];exact hb
theorem kC0.nil (w:World):kC0 w (.agg #[.slice none 0 0,.slice none 0 0]) []:=⟨none,0,none,0,rfl,Ints.nil _ _ _,Ints.nil _ _ _,fun _=>rfl,fun _=>rfl⟩
def kEz (L:List (Int×Int)) (to v:Int):List (Int×Int):=match L.getLast? with
 | some x=>if x.2=v then L.dropLast++[(to,v)]else L++[(to,v)]
 | none=>[(to,v)]
theorem Ints.src {k:IntKind}{w:World}{a:Option Addr}{zs:List Int}(h:Ints k w a zs):∀j v,(ivs k zs)[j]? =Option.some v→∃ad,a=Option.some ad∧w.cell? (ad.add j)=Option.some v:=by
 intro j v hv;unfold ivs at hv;rw[List.getElem?_map]at hv
 cases hz:zs[j]? with
 | none=>rw[hz]at hv;cases hv
 | some z=>
  rw[hz]at hv;cases hv;obtain⟨hj,hz⟩:=List.getElem?_eq_some_iff.1 hz;obtain⟨b,o,rfl,hc⟩:=h j hj;exact⟨_,rfl,by rw[Addr.add_lit,hc,hz]⟩
theorem kIw {P:Program}{o:Oper}{a:Act}{w:World}(t:TypeId)(x:Operand)(ho:o.op= .buildSlice t 1 #[(0,x)])(v:Value)(hx:a.eval x=v)(E:TypeId)(hr:∀w,(Instr.buildSlice t 1 #[(0,v)]).run P w= .ok (.slice (some ⟨w.heap.size,0,none⟩) 1 1) (w.alloc (.cells #[v] E))):
  (execOp a.eval o).run P w= .ok (.value (.slice (some ⟨w.heap.size,0,none⟩) 1 1)) (w.alloc (.cells #[v] E)):=by
 subst hx;unfold execOp;simp only[ho,List.map_toArray,List.map_cons,List.map_nil,Sem.run_bind,hr,Result.andThen_ok,Sem.run_pure]
theorem kKu (w:World)(fv:Value)(L:List (Int×Int))(to v:Int)(hL:L.length≤1114112)(hf:kC0 w fv L):
  Calls Tryz.prog 70 #[fv,.int .i32 to,.int .i64 v] w fun e w'=>∃fv',e= .returned fv'∧kC0 w' fv' (kEz L to v)∧Below w.heap.size w w'∧∀B,B≤w.heap.size→kLz B fv→kLz B fv':=by
 obtain⟨aT,cT,aV,cV,rfl,hT,hV,hnT,hnV⟩:=hf
 obtain⟨n,hn⟩:∃n,n=L.length:=⟨_,rfl⟩
 rw[←hn]
 have HT:=jH hT;have HV:=jH hV;have HnT:=jH hnT;have HnV:=jH hnV;have HN:=jH hn
 clear hT hV hnT hnV hn
 have HLb:=jH hL;clear hL
 go_enter Tryz.func70,Tryz.ntmps70
 go_upto_region 1 with(fail)
 obtain⟨b0,hb0⟩:∃b0,b0=w.heap.size:=⟨_,rfl⟩
 have HW:Hid (Below w.heap.size w ((w.alloc (.cells #[.slice aT n cT,.slice aV n cV] 35)).alloc (.cells #[.slice none 0 0,.slice none 0 0] 35))∧
   ((w.alloc (.cells #[.slice aT n cT,.slice aV n cV] 35)).alloc (.cells #[.slice none 0 0,.slice none 0 0] 35)).heap[b0]? =some (.cells #[.slice aT n cT,.slice aV n cV] 35 (0,0))∧
   ((w.alloc (.cells #[.slice aT n cT,.slice aV n cV] 35)).alloc (.cells #[.slice none 0 0,.slice none 0 0] 35)).heap[b0+1]? =some (.cells #[.slice none 0 0,.slice none 0 0] 35 (0,0))∧
   ((w.alloc (.cells #[.slice aT n cT,.slice aV n cV] 35)).alloc (.cells #[.slice none 0 0,.slice none 0 0] 35)).heap.size=b0+2):=jH (by
  rw[hb0]
  refine⟨((Below.refl _ w).alloc jR _).alloc (by simp) _,?_,?_,by simp⟩
  ·rw[Below.heap_alloc _ _ _ (by simp)];exact jN w _
  ·have:=jN (w.alloc (.cells #[.slice aT n cT,.slice aV n cV] 35)) (.cells #[.slice none 0 0,.slice none 0 0] 35)
   simpa using this)
 rw[←hb0];generalize ((w.alloc (.cells #[.slice aT n cT,.slice aV n cV] 35)).alloc (.cells #[.slice none 0 0,.slice none 0 0] 35))=w2 at*
 have HBz:=jH hb0;clear hb0
 have HT2:=jH (HT.out.below HW.out.1 jR);have HV2:=jH (HV.out.below HW.out.1 jR)
 have q0:=jK w2 b0 0 _ _ (0,0) HW.out.2.1;have q1:=jK w2 b0 1 _ _ (0,0) HW.out.2.1;have p0:=jK w2 (b0+1) 0 _ _ (0,0) HW.out.2.2.1;have p1:=jK w2 (b0+1) 1 _ _ (0,0) HW.out.2.2.1;have fz:=jO w2 (b0+1) 0 _ _ HW.out.2.2.1;simp at q0 q1 p0 p1
 have hcs:n=0∨(∃m x,n=m+1∧L.getLast? =some x∧(L.map (·.2))[m]? =some x.2∧x.2=v)∨(∃m x,n=m+1∧L.getLast? =some x∧(L.map (·.2))[m]? =some x.2∧x.2≠v):=by
  rw[HN.out]
  cases hl:L.getLast? with
  | none=>exact .inl (by rw[List.getLast?_eq_none_iff.1 hl];rfl)
  | some x=>
   have hne:L≠[]:=fun e=>by rw[e]at hl;cases hl
   have hp:0<L.length:=List.length_pos_iff.2 hne
   have hg:(L.map (·.2))[L.length - 1]? =some x.2:=by
    rw[List.getLast?_eq_getElem?]at hl
    rw[List.getElem?_map,hl];rfl
   by_cases hv:x.2=v
   ·exact .inr (.inl ⟨L.length - 1,x,by omega,rfl,hg,hv⟩)
   ·exact .inr (.inr ⟨L.length - 1,x,by omega,rfl,hg,hv⟩)
 rcases hcs with h0 | ⟨m,x,hm,hla,hg,hv⟩ | ⟨m,x,hm,hla,hg,hv⟩
 rotate_left
 ·have hni:(0:Int)<(n:Int):=by omega
  have hnm:(n:Int) - 1=(m:Int):=by omega
  have HWl:Hid (kEz L to v=L.dropLast++[(to,v)]):=jH (by unfold kEz;rw[hla];simp only;rw[if_pos hv])
  have HLs:Hid ((L.map (·.1)).set m to=(L.dropLast++[(to,v)]).map (·.1)∧L.map (·.2)=(L.dropLast++[(to,v)]).map (·.2)∧(L.dropLast++[(to,v)]).length=n):=jH (by
   have hd:L=L.dropLast++[x]:=by
    obtain⟨hne,e⟩:=List.getLast?_eq_some_iff.1 hla
    rw[e];simp
   have hdl:L.dropLast.length=m:=by rw[List.length_dropLast,←HN.out];omega
   have hLm:L.length=m+1:=by rw[←HN.out];exact hm
   refine⟨?_,?_,by rw[List.length_append,hdl,hm];rfl⟩
   ·conv=>lhs;rw[hd]
    rw[List.map_append,List.set_append_right _ _ (by rw[List.length_map,hdl];exact Nat.le_refl _)];rw[List.length_map,hdl,Nat.sub_self,List.map_append]
    rfl
   ·conv=>lhs;rw[hd]
    simp[hv])
  obtain⟨hml,hmx⟩:=List.getElem?_eq_some_iff.1 hg;obtain⟨bV,oV,haV⟩:=HV2.out.some (by omega);subst haV;have r0:=HV2.out.get m hml;rw[hmx]at r0
  have hve:(x.2==v)=true:=by rw[hv];exact beq_self_eq_true v
  have hw64:wrap64 (m:Int)=(m:Int):=by have:=HLb.out;have:=HN.out;unfold wrap64;omega
  have hmn:(m:Int)<(n:Int):=by omega
  have HM:=jH hm;clear hm hla hg hmx hv hml
  go_upto_region 3 with(fail)
  generalize haV9:(some (⟨bV,oV,none⟩:Addr))=aV at*
  have HaV9:=jH haV9;clear haV9
  clear r0 hve hni;refine(wpIn_wide (n:=2)).1 ?_;refine kAj [5,7] (fun w':World=>w'.cell? ⟨b0,0,none⟩=some (.slice aT n cT)∧w'.cell? ⟨b0,1,none⟩=some (.slice aV n cV)) (by kernel_rfl) ?_;have HCx:Hid ((fun w':World=>w'.cell? ⟨b0,0,none⟩=some (.slice aT n cT)∧w'.cell? ⟨b0,1,none⟩=some (.slice aV n cV)) w2.drew):=jH ⟨q0,q1⟩;have HD:Hid (Below w2.heap.size w2 w2.drew):=jH (Below.refl _ w2).drew
  have HT3:=jH (HT2.out.below HD.out jR);have HV3:=jH (HV2.out.below HD.out jR)
  have el32:kFh Tryz.prog 30 21 (.int .i32 0) 1 4:=⟨Tryz.underlying30,by kernel_rfl,by kernel_rfl,by decide⟩
  clear q0 q1;generalize w2.drew=w3 at*;refine' kAe (i:=0) (v:=_) [1,2,5,7] (by kernel_rfl) rfl (by kernel_rfl) (by kernel_rfl) (fun _ _ _ h=>h) (by rfl) ?hs0 HCx.out ?ks0
  case hs0=>
   rintro w' ⟨c0,c1⟩
   go_simp
   try with_reducible rfl
  simp only[jA,jB,jC,Act.put,jD,jE,jF];refine' kAe (i:=1) (v:=_) [2,5,7] (by kernel_rfl) rfl (by kernel_rfl) (by kernel_rfl) (fun _ _ _ h=>h) (by rfl) ?hs1 HCx.out ?ks1
  case hs1=>
   rintro w' ⟨c0,c1⟩
   go_simp
   try with_reducible rfl
  simp only[jA,jB,jC,Act.put,jD,jE,jF];refine' kAe (i:=3) (v:=_) [4,5,7] (by kernel_rfl) rfl (by kernel_rfl) (by kernel_rfl) (fun _ _ _ h=>h) (by rfl) ?hs3 HCx.out ?ks3
  case hs3=>
   rintro w' ⟨c0,c1⟩
   go_simp
   try with_reducible rfl
  simp only[jA,jB,jC,Act.put,jD,jE,jF];refine' kAe (i:=4) (v:=_) [5,7] (by kernel_rfl) rfl (by kernel_rfl) (by kernel_rfl) (fun _ _ _ h=>h) (by rfl) ?hs4 HCx.out ?ks4
  case hs4=>
   rintro w' ⟨c0,c1⟩
   go_simp
   try with_reducible rfl
  simp only[jA,jB,jC,Act.put,jD,jE,jF]
  refine kHr [2,5,6] [5,7] (fun i=>if i≤5 then 0 else 1) (fun c=>if c=0 then kJ6 2 5 26 29 w3.heap.size 21 n (ivs .i32 (L.map (·.1))) (.slice aV n cV)else if c=1 then layJ 6 8 #[.slice none 0 0,.slice none 0 0] 35 else fun _ _ _ _=>True) w3.heap.size w3 _ [] #[true,true,true,true,true,true,true,false] 1
   (kH3 (D:=[26,29,8]) (own:=fun i=>if i≤5 then 0 else 1) (by kernel_rfl)) (kJe (D:=[26,29,8]) (by kernel_rfl)) ?hsC ?hsloc ?hsstep ?hsend 3 _ _ _ (fun _ _=>False) (by kernel_rfl) rfl ?hsJ rfl (fun _ _=>rfl) (Below.refl _ _) jR (fun _ _ h=>h.elim) (fun _ _ _ _ h=>h.elim)
  case hsC=>
   intro w' hb;exact⟨(hb.cell (p:=⟨b0,0,none⟩) (World.block_lt_of_cell? w3 _ HCx.out.1)).trans HCx.out.1,(hb.cell (p:=⟨b0,1,none⟩) (World.block_lt_of_cell? w3 _ HCx.out.2)).trans HCx.out.2⟩
  case hsloc=>
   intro c l l' t t' T w w' hJ hl ht hsz hk
   by_cases c0:c=0
   ·subst c0;exact kP8 hJ (hl 2 (by simp) rfl) (hl 5 (by simp) rfl) (ht 2 (by simp) rfl 26 ⟨_,rfl,rfl⟩) (ht 5 (by simp) rfl 29 ⟨_,rfl,rfl⟩) hk
   ·by_cases c1:c=1
    ·subst c1;exact kSg hJ (hl 6 (by simp) rfl) (ht 6 (by simp) rfl 8 ⟨_,rfl,rfl⟩) hk
    ·rw[if_neg c0,if_neg c1];trivial
  case hsJ=>
   intro c
   by_cases c0:c=0
   ·subst c0;exact⟨(fun e=>by cases e),(fun e=>by cases e)⟩
   ·by_cases c1:c=1
    ·subst c1
     exact fun e=>by cases e
    ·rw[if_neg c0,if_neg c1];trivial
  case hsstep=>
   intro i hi o ho l a T w hisz hun hJ haft hz ho' hb hzz hT
   have hi':i=2∨i=5∨i=6:=by simpa using hi
   have hsl:=fun s hs=>ho' s (kDy (D:=[26,29,8]) (own:=fun i=>if i≤5 then 0 else 1) (by kernel_rfl) hs)
   clear ho' hi;have hz50:a.tmps.size=50:=hz
   have hnb:n≤1114112:=by have:=HLb.out;have:=HN.out;omega
   rcases hi' with rfl | rfl | rfl
   ·obtain rfl:=Option.some.inj ho;exact⟨rfl,kP9 el32 (by decide) rfl (by omega) rfl hisz hun hJ hzz hT (kBx (hsl 25 (by decide))) (by simp[ivs,HN.out]) (HT3.out.below hb jR).src HnT.out (kGk _ _) (by omega) (by unfold maxLen;omega)⟩
   ·obtain rfl:=Option.some.inj ho;exact⟨rfl,kQa (by decide) (by decide) rfl (by omega) rfl (kBx (hsl 28 (by decide))) (fun aa ca w=>by kernel_rfl) hisz (haft ⟨2,.data⟩ (by simp) rfl) hJ hT⟩
   ·obtain rfl:=Option.some.inj ho;exact⟨rfl,kSh rfl (by omega) hisz hT (by kernel_rfl)⟩
  case hsend=>
   intro a w T hd hJ hz ho hb hzz hT hdj;obtain⟨a1,c1,g1,g2,gT,g3⟩:=(hJ 0).1 rfl;have g3:=g3 rfl;obtain⟨b8,g4,g5,g6⟩:=(hJ 1) rfl
   have hb8:∀k,(Value.slice a1 n c1).ownBlock=some k→k≠b8:=fun k e e2=>hdj 0 1 k (by decide) (gT k e) (by rw[e2];exact g6)
   have hz8:=hT 1 b8 g6;have he:=kK5 [26,29,8] hz (fun s hs=>ho s (kDy (D:=[26,29,8]) (own:=fun i=>if i≤5 then 0 else 1) (by kernel_rfl) hs))
   have k1:a.tmps.getD 26 undef= .slice a1 n c1:=by rw[Array.getD_eq_getD_getElem?,g1];rfl
   have k2:a.tmps.getD 29 undef= .agg #[.slice a1 n c1,.slice aV n cV]:=by rw[Array.getD_eq_getD_getElem?,g3];rfl
   have k3:a.tmps.getD 8 undef= .pointer (some ⟨b8,0,none⟩):=by rw[Array.getD_eq_getD_getElem?,g4];rfl
   simp only[List.foldl_cons,List.foldl_nil,k1,k2,k3]at he;obtain⟨tm,dfs⟩:=a;obtain rfl:dfs=[]:=hd;obtain rfl:tm=_:=he;refine kBp 7 (by rfl) (by kernel_rfl) (by kernel_rfl) ?_;simp only[List.drop_succ_cons,List.drop_zero,List.setIfInBounds_toArray,List.set_cons_zero,List.set_cons_succ];obtain⟨gg,hgg,hgz,hgl, -⟩:=Own.at g2 (by omega);subst hgg;have hne8:gg≠b8:=hb8 gg rfl;have xb:w.heap[b0+1]? =some (.cells #[.slice none 0 0,.slice none 0 0] 35 (0,0)):=(hb.block (b0+1) (by have:=HD.out.size;have:=HW.out.2.2.2;omega)).trans ((HD.out.block (b0+1) (by have:=HW.out.2.2.2;omega)).trans HW.out.2.2.1)
   have hzb:b0+1<w3.heap.size:=by have:=HD.out.size;have:=HW.out.2.2.2;omega
   have q1:=jK w b8 0 _ _ (0,0) g5;have q2:=jK w b8 1 _ _ (0,0) g5;have qf:=jO w b8 0 _ _ g5;have qf1:=jO w b8 1 _ _ g5;simp at q1 q2;have y1:=jP w b8 0 _ _ (.slice (some ⟨gg,0,none⟩) n c1) g5;have y2:=jP _ b8 1 _ _ (.slice aV n cV) y1;have hg:w.grownBy ((w.setCell ⟨b8,0,none⟩ (.slice (some ⟨gg,0,none⟩) n c1)).setCell ⟨b8,1,none⟩ (.slice aV n cV)) (some b8):=kA4 (kAd w b8 0 _) (kAd _ b8 1 _);have o1:=World.ownsRow.kept g2 hg (.inr (fun e=>hne8 (by simpa [Value.ownBlock]using e)));have xb1:=(hg.block (b0+1) (jL xb) (fun e=>by cases e;omega)).trans xb
   have Y2:=jH y2;have O1:=jH o1;have XB1:=jH xb1
   have HBb:Hid (Below w3.heap.size w3 ((w.setCell ⟨b8,0,none⟩ (.slice (some ⟨gg,0,none⟩) n c1)).setCell ⟨b8,1,none⟩ (.slice aV n cV))):=jH ((hb.setCell (p:=⟨b8,0,none⟩) hz8.1 _).setCell (p:=⟨b8,1,none⟩) hz8.1 _);have HGz:=jH (And.intro hgz (And.intro hz8 hne8));clear y1 y2 hg o1 xb xb1 g1 g2 gT g3 g4 g5 g6 k1 k2 k3 hJ hz ho hT hdj hb hzz fz p0 p1 hb8 hz8 hgl hgz
   gi_wp2
   go_upto_region 4 with(fail)
   clear qf qf1 q1 q2;generalize ((w.setCell ⟨b8,0,none⟩ (.slice (some ⟨gg,0,none⟩) n c1)).setCell ⟨b8,1,none⟩ (.slice aV n cV))=w5 at*;have q8:=jK w5 b8 0 _ _ (0,0) Y2.out;simp at q8
   have hxl:m<(ivs .i32 (L.map (·.1))).length:=by rw[Own.len O1.out];have:=HM.out;omega
   have qg:w5.cell? ⟨gg,m,none⟩=some (ivs .i32 (L.map (·.1)))[m]:=Own.cell O1.out m hxl;have qgf:w5.frozen? ⟨gg,m,none⟩=false:=Own.unfrozen O1.out m;have O2:=jH (Own.store O1.out m (.int .i32 to));have Y3:Hid ((w5.setCell ⟨gg,m,none⟩ (.int .i32 to)).heap[b8]? =some (.cells #[.slice (some ⟨gg,0,none⟩) n c1,.slice aV n cV] 35 (0,0))):=jH (by rw[jQ w5 ⟨gg,m,none⟩ b8 _ (fun e=>hne8 e.symm)];exact Y2.out);have X3:Hid ((w5.setCell ⟨gg,m,none⟩ (.int .i32 to)).heap[b0+1]? =some (.cells #[.slice none 0 0,.slice none 0 0] 35 (0,0))):=jH (by rw[jQ w5 ⟨gg,m,none⟩ (b0+1) _ (by have:=HGz.out.1;show b0+1≠gg;omega)];exact XB1.out);have B3:=jH (HBb.out.setCell (p:=⟨gg,m,none⟩) HGz.out.1 (.int .i32 to));generalize (ivs .i32 (L.map (·.1)))[m]=old at*
   go_upto_region 5 with(fail)
   clear q8 qg qgf;generalize w5.setCell ⟨gg,m,none⟩ (.int .i32 to)=w6 at*;have q1:=jK w6 (b0+1) 0 _ _ (0,0) X3.out;have q2:=jK w6 (b0+1) 1 _ _ (0,0) X3.out;have qf:=jO w6 (b0+1) 0 _ _ X3.out;have qf1:=jO w6 (b0+1) 1 _ _ X3.out;have r1:=jK w6 b8 0 _ _ (0,0) Y3.out;have r2:=jK w6 b8 1 _ _ (0,0) Y3.out;simp at q1 q2 r1 r2;go_wp2
   have y1:=jP w6 (b0+1) 0 _ _ (.slice (some ⟨gg,0,none⟩) n c1) X3.out;have y2:=jP _ (b0+1) 1 _ _ (.slice aV n cV) y1;refine jS (results_cell_row rfl _ _ (b0+1) _ _ _ _ rfl y2 Tryz.underlying35 rfl rfl) rfl ?_;have hg:w6.grownBy ((w6.setCell ⟨b0+1,0,none⟩ (.slice (some ⟨gg,0,none⟩) n c1)).setCell ⟨b0+1,1,none⟩ (.slice aV n cV)) (some (b0+1)):=kA4 (kAd w6 (b0+1) 0 _) (kAd _ (b0+1) 1 _)
   have hne1:gg≠b0+1:=by have:=HGz.out.1;omega
   have o1:=World.ownsRow.kept O2.out hg (.inr (fun e=>hne1 (by simpa [Value.ownBlock]using e)));have hB6:=(((HW.out.1.trans (HD.out.mono HW.out.1.size)).trans (B3.out.mono (Nat.le_trans HW.out.1.size HD.out.size))).setCell (p:=⟨b0+1,0,none⟩) (by show _≤b0+1;have:=HBz.out;omega) (.slice (some ⟨gg,0,none⟩) n c1)).setCell (p:=⟨b0+1,1,none⟩) (by show _≤b0+1;have:=HBz.out;omega) (.slice aV n cV);rw[HWl.out]
   refine⟨_,rfl,⟨some ⟨gg,0,none⟩,c1,aV,cV,?_,?_,?_,(fun e=>by cases e),HnV.out⟩,hB6,fun B hB hF=>⟨_,_,_,_,_,_,rfl,fun x e=>(by cases e;have:=HGz.out.1;have:=HW.out.1.size;have:=HD.out.size;show B≤gg;omega),(by rw[←HaV9.out];exact hF.two.2)⟩⟩
   ·first
    | (rw[HLs.out.2.2];rfl)
    | simp[HLs.out.2.2]
   ·rw[←HLs.out.1];exact Own.ints (by rw[←kNl];exact o1)
   ·rw[←HLs.out.2.1];exact HV.out.below hB6 jR
 ·have hni:(0:Int)<(n:Int):=by omega
  have hnm:(n:Int) - 1=(m:Int):=by omega
  have HWl:Hid (kEz L to v=L++[(to,v)]):=jH (by unfold kEz;rw[hla];simp only;rw[if_neg hv]);obtain⟨hml,hmx⟩:=List.getElem?_eq_some_iff.1 hg;obtain⟨bV,oV,haV⟩:=HV2.out.some (by omega);subst haV;have r0:=HV2.out.get m hml;rw[hmx]at r0;have hve:(x.2==v)=false:=beq_false_of_ne hv
  have hw64:wrap64 (m:Int)=(m:Int):=by have:=HLb.out;have:=HN.out;unfold wrap64;omega
  have hmn:(m:Int)<(n:Int):=by omega
  clear hm hla hg hmx hv
  go_upto_region 6 with(fail)
  generalize (some (⟨bV,oV,none⟩:Addr))=aV at*;clear r0 hve hw64 hmn hnm;refine(wpIn_wide (n:=2)).1 ?_;refine kAj [12,13] (fun w':World=>w'.cell? ⟨b0,0,none⟩=some (.slice aT n cT)∧w'.cell? ⟨b0,1,none⟩=some (.slice aV n cV)) (by kernel_rfl) ?_;have HCx:Hid ((fun w':World=>w'.cell? ⟨b0,0,none⟩=some (.slice aT n cT)∧w'.cell? ⟨b0,1,none⟩=some (.slice aV n cV)) w2.drew):=jH ⟨q0,q1⟩;have HD:Hid (Below w2.heap.size w2 w2.drew):=jH (Below.refl _ w2).drew
  have HT3:=jH (HT2.out.below HD.out jR);have HV3:=jH (HV2.out.below HD.out jR)
  have el32:kFh Tryz.prog 30 21 (.int .i32 0) 1 4:=⟨Tryz.underlying30,by kernel_rfl,by kernel_rfl,by decide⟩
  have el64:kFh Tryz.prog 33 3 (.int .i64 0) 1 8:=⟨Tryz.underlying33,by kernel_rfl,by kernel_rfl,by decide⟩
  clear q0 q1;generalize w2.drew=w3 at*;refine' kAa (i:=0) (v:=_) [1,2,5,12,13] (by kernel_rfl) rfl (by kernel_rfl) (fun _ _ _ h=>h) (by rfl) ?h0 HCx.out ?k0
  case h0=>
   rintro w' ⟨c0,c1⟩
   go_simp
   try with_reducible rfl
  simp only[jA,jB,jC,Act.put,jD,jE,jF];refine' kAa (i:=1) (v:=_) [2,5,12,13] (by kernel_rfl) rfl (by kernel_rfl) (fun _ _ _ h=>h) (by rfl) ?h1 HCx.out ?k1
  case h1=>
   rintro w' ⟨c0,c1⟩
   go_simp
   try with_reducible rfl
  simp only[jA,jB,jC,Act.put,jD,jE,jF];refine' kAa (i:=3) (v:=_) [4,5,12,13] (by kernel_rfl) rfl (by kernel_rfl) (fun _ _ _ h=>h) (by rfl) ?h3 HCx.out ?k3
  case h3=>
   rintro w' ⟨c0,c1⟩
   go_simp
   try with_reducible rfl
  simp only[jA,jB,jC,Act.put,jD,jE,jF];refine' kAa (i:=6) (v:=_) [7,8,11,12,13] (by kernel_rfl) rfl (by kernel_rfl) (fun _ _ _ h=>h) (by rfl) ?h6 HCx.out ?k6
  case h6=>
   rintro w' ⟨c0,c1⟩
   go_simp
   try with_reducible rfl
  simp only[jA,jB,jC,Act.put,jD,jE,jF];refine' kAa (i:=7) (v:=_) [8,11,12,13] (by kernel_rfl) rfl (by kernel_rfl) (fun _ _ _ h=>h) (by rfl) ?h7 HCx.out ?k7
  case h7=>
   rintro w' ⟨c0,c1⟩
   go_simp
   try with_reducible rfl
  simp only[jA,jB,jC,Act.put,jD,jE,jF];refine' kAa (i:=9) (v:=_) [10,11,12,13] (by kernel_rfl) rfl (by kernel_rfl) (fun _ _ _ h=>h) (by rfl) ?h9 HCx.out ?k9
  case h9=>
   rintro w' ⟨c0,c1⟩
   go_simp
   try with_reducible rfl
  simp only[jA,jB,jC,Act.put,jD,jE,jF]
  refine kHr [2,4,5,8,10,11] [12,13] (fun i=>if i≤5 then 0 else 1) (fun c=>if c=0 then kM3 2 4 5 39 41 42 w3.heap.size 21 n (ivs .i32 (L.map (·.1))) (.int .i32 to)else if c=1 then kM3 8 10 11 45 47 48 w3.heap.size 3 n (ivs .i64 (L.map (·.2))) (.int .i64 v)else fun _ _ _ _=>True) w3.heap.size w3 _ [] #[true,true,true,true,true,true,true,true,true,true,true,true,false,false] 2
   (kH3 (D:=[39,41,42,45,47,48]) (own:=fun i=>if i≤5 then 0 else 1) (by kernel_rfl)) (kJe (D:=[39,41,42,45,47,48]) (by kernel_rfl)) ?hC ?hloc ?hstep ?hend 6 _ _ _ (fun _ _=>False) (by kernel_rfl) rfl ?hJ rfl (fun _ _=>rfl) (Below.refl _ _) jR (fun _ _ h=>h.elim) (fun _ _ _ _ h=>h.elim)
  case hC=>
   intro w' hb;exact⟨(hb.cell (p:=⟨b0,0,none⟩) (World.block_lt_of_cell? w3 _ HCx.out.1)).trans HCx.out.1,(hb.cell (p:=⟨b0,1,none⟩) (World.block_lt_of_cell? w3 _ HCx.out.2)).trans HCx.out.2⟩
  case hloc=>
   intro c l l' t t' T w w' hJ hl ht hsz hk
   by_cases c0:c=0
   ·subst c0;exact kIs hJ (hl 2 (by simp) rfl) (hl 4 (by simp) rfl) (hl 5 (by simp) rfl) (ht 2 (by simp) rfl 39 ⟨_,rfl,rfl⟩) (ht 4 (by simp) rfl 41 ⟨_,rfl,rfl⟩) (ht 5 (by simp) rfl 42 ⟨_,rfl,rfl⟩) hk
   ·by_cases c1:c=1
    ·subst c1;exact kIs hJ (hl 8 (by simp) rfl) (hl 10 (by simp) rfl) (hl 11 (by simp) rfl) (ht 8 (by simp) rfl 45 ⟨_,rfl,rfl⟩) (ht 10 (by simp) rfl 47 ⟨_,rfl,rfl⟩) (ht 11 (by simp) rfl 48 ⟨_,rfl,rfl⟩) hk
    ·rw[if_neg c0,if_neg c1];trivial
  case hJ=>
   intro c
   by_cases c0:c=0
   ·subst c0;exact⟨(fun e=>by cases e),(fun e=>by cases e),(fun e=>by cases e),(fun e=>by cases e)⟩
   ·by_cases c1:c=1
    ·subst c1;exact⟨(fun e=>by cases e),(fun e=>by cases e),(fun e=>by cases e),(fun e=>by cases e)⟩
    ·rw[if_neg c0,if_neg c1];trivial
  case hstep=>
   intro i hi o ho l a T w hisz hun hJ haft hz ho' hb hzz hT
   have hi':i=2∨i=4∨i=5∨i=8∨i=10∨i=11:=by simpa using hi
   have hsl:=fun s hs=>ho' s (kDy (D:=[39,41,42,45,47,48]) (own:=fun i=>if i≤5 then 0 else 1) (by kernel_rfl) hs)
   clear ho' hi;have hz50:a.tmps.size=50:=hz
   have hnb:n≤1114112:=by have:=HLb.out;have:=HN.out;omega
   rcases hi' with rfl | rfl | rfl | rfl | rfl | rfl
   ·obtain rfl:=Option.some.inj ho;exact⟨rfl,kIt el32 (by decide) (by decide) (by decide) rfl (by omega) rfl hisz hun hJ hzz hT (kBx (hsl 38 (by decide))) (by simp[ivs,HN.out]) (HT3.out.below hb jR).src HnT.out (kGk _ _) (by omega) (by unfold maxLen;omega)⟩
   ·obtain rfl:=Option.some.inj ho;exact⟨rfl,kIu (by decide) (by decide) (by decide) rfl (by omega) hisz hun hJ hzz hT (kIw 30 (.tmp 40) rfl _ (kBx (hsl 40 (by decide))) 21 (fun w=>by kernel_rfl))⟩
   ·obtain rfl:=Option.some.inj ho;exact⟨rfl,kFw el32 (by decide) (by decide) rfl (by omega) rfl hisz (haft ⟨2,.data⟩ (by simp) rfl) (haft ⟨4,.data⟩ (by simp) rfl) (kGj hun) hJ hzz hT rfl (by omega) (by unfold maxLen;omega)⟩
   ·obtain rfl:=Option.some.inj ho;exact⟨rfl,kIt el64 (by decide) (by decide) (by decide) rfl (by omega) rfl hisz hun hJ hzz hT (kBx (hsl 44 (by decide))) (by simp[ivs,HN.out]) (HV3.out.below hb jR).src HnV.out (kGk _ _) (by omega) (by unfold maxLen;omega)⟩
   ·obtain rfl:=Option.some.inj ho;exact⟨rfl,kIu (by decide) (by decide) (by decide) rfl (by omega) hisz hun hJ hzz hT (kIw 33 (.tmp 46) rfl _ (kBx (hsl 46 (by decide))) 3 (fun w=>by kernel_rfl))⟩
   ·obtain rfl:=Option.some.inj ho;exact⟨rfl,kFw el64 (by decide) (by decide) rfl (by omega) rfl hisz (haft ⟨8,.data⟩ (by simp) rfl) (haft ⟨10,.data⟩ (by simp) rfl) (kGj hun) hJ hzz hT rfl (by omega) (by unfold maxLen;omega)⟩
  case hend=>
   intro a w T hd hJ hz ho hb hzz hT hdj;obtain⟨a1,c1,g1,g2, -⟩:=(hJ 0).2.2.1 rfl;obtain⟨a2,c2,g3,g4, -⟩:=(hJ 1).2.2.1 rfl;have he:=kK5 [39,41,42,45,47,48] hz (fun s hs=>ho s (kDy (D:=[39,41,42,45,47,48]) (own:=fun i=>if i≤5 then 0 else 1) (by kernel_rfl) hs))
   have k1:a.tmps.getD 42 undef= .slice a1 (n+1) c1:=by rw[Array.getD_eq_getD_getElem?,g1];rfl
   have k2:a.tmps.getD 48 undef= .slice a2 (n+1) c2:=by rw[Array.getD_eq_getD_getElem?,g3];rfl
   simp only[List.foldl_cons,List.foldl_nil,k1,k2]at he;obtain⟨tm,dfs⟩:=a;obtain rfl:dfs=[]:=hd;generalize tm.getD 39 undef=v39 at he;generalize tm.getD 41 undef=v41 at he;generalize tm.getD 45 undef=v45 at he;generalize tm.getD 47 undef=v47 at he;obtain rfl:tm=_:=he;refine kBp 12 (by rfl) (by kernel_rfl) (by kernel_rfl) ?_;simp only[List.drop_succ_cons,List.drop_zero,List.setIfInBounds_toArray,List.set_cons_zero,List.set_cons_succ];have xb:w.heap[b0+1]? =some (.cells #[.slice none 0 0,.slice none 0 0] 35 (0,0)):=(hb.block (b0+1) (by have:=HD.out.size;have:=HW.out.2.2.2;omega)).trans ((HD.out.block (b0+1) (by have:=HW.out.2.2.2;omega)).trans HW.out.2.2.1);have q1:=jK w (b0+1) 0 _ _ (0,0) xb;have q2:=jK w (b0+1) 1 _ _ (0,0) xb;have qf:=jO w (b0+1) 0 _ _ xb;have qf1:=jO w (b0+1) 1 _ _ xb;simp at q1 q2
   have XB:=jH xb;have G2:=jH g2;have G4:=jH g4
   have HB3:=jH hb;have HZ3:=jH hzz
   clear xb g1 g2 g3 g4 k1 k2 hJ hz ho hT hdj hb hzz fz p0 p1
   gi_wp2
   go_wp2
   have y1:=jP w (b0+1) 0 _ _ (.slice a1 (n+1) c1) XB.out;have y2:=jP _ (b0+1) 1 _ _ (.slice a2 (n+1) c2) y1;refine jS (results_cell_row rfl _ _ (b0+1) _ _ _ _ rfl y2 Tryz.underlying35 rfl rfl) rfl ?_
   have hzb:b0+1<w3.heap.size:=by have:=HD.out.size;have:=HW.out.2.2.2;omega
   have hg:w.grownBy ((w.setCell ⟨b0+1,0,none⟩ (.slice a1 (n+1) c1)).setCell ⟨b0+1,1,none⟩ (.slice a2 (n+1) c2)) (some (b0+1)):=kA4 (kAd w (b0+1) 0 _) (kAd _ (b0+1) 1 _)
   have o1:=G2.out.kept hg (by
    cases e2:(Value.slice a1 (n+1) c1).ownBlock with
    | none=>exact .inl rfl
    | some k=>exact .inr (fun e3=>by cases e3;have:=(World.ownsRow.lt G2.out _ e2).1;omega))
   have o2:=G4.out.kept hg (by
    cases e2:(Value.slice a2 (n+1) c2).ownBlock with
    | none=>exact .inl rfl
    | some k=>exact .inr (fun e3=>by cases e3;have:=(World.ownsRow.lt G4.out _ e2).1;omega))
   rw[HWl.out]
   refine⟨_,rfl,⟨a1,c1,a2,c2,?_,?_,?_,fun e=> ?_,fun e=> ?_⟩,?_,fun B hB hF=>⟨_,_,_,_,_,_,rfl,fun x e=>(by have:=kLi o1 x e;have:=HW.out.1.size;have:=HD.out.size;omega),fun x e=>(by have:=kLi o2 x e;have:=HW.out.1.size;have:=HD.out.size;omega)⟩⟩
   ·simp[HN.out]
   ·rw[List.map_append];exact Own.ints (by rw[kBi];exact o1)
   ·rw[List.map_append];exact Own.ints (by rw[kBi];exact o2)
   ·obtain⟨g,e2, -⟩:=Own.at o1 (by omega)
    rw[e2]at e;cases e
   ·obtain⟨g,e2, -⟩:=Own.at o2 (by omega)
    rw[e2]at e;cases e
   ·exact(((HW.out.1.trans (HD.out.mono HW.out.1.size)).trans (HB3.out.mono (Nat.le_trans HW.out.1.size HD.out.size))).setCell (p:=⟨b0+1,0,none⟩) (by show _≤b0+1;have:=HBz.out;omega) _).setCell (p:=⟨b0+1,1,none⟩) (by show _≤b0+1;have:=HBz.out;omega) _
 ·have hni:¬(0:Int)<(n:Int):=by omega
  have HWl:Hid (kEz L to v=L++[(to,v)]):=jH (by
   have:L=[]:=List.length_eq_zero_iff.1 (by rw[←HN.out];exact h0)
   rw[this];rfl)
  clear h0
  go_upto_region 6 with(fail)
  refine(wpIn_wide (n:=2)).1 ?_;refine kAj [12,13] (fun w':World=>w'.cell? ⟨b0,0,none⟩=some (.slice aT n cT)∧w'.cell? ⟨b0,1,none⟩=some (.slice aV n cV)) (by kernel_rfl) ?_;have HCx:Hid ((fun w':World=>w'.cell? ⟨b0,0,none⟩=some (.slice aT n cT)∧w'.cell? ⟨b0,1,none⟩=some (.slice aV n cV)) w2.drew):=jH ⟨q0,q1⟩;have HD:Hid (Below w2.heap.size w2 w2.drew):=jH (Below.refl _ w2).drew
  have HT3:=jH (HT2.out.below HD.out jR);have HV3:=jH (HV2.out.below HD.out jR)
  have el32:kFh Tryz.prog 30 21 (.int .i32 0) 1 4:=⟨Tryz.underlying30,by kernel_rfl,by kernel_rfl,by decide⟩
  have el64:kFh Tryz.prog 33 3 (.int .i64 0) 1 8:=⟨Tryz.underlying33,by kernel_rfl,by kernel_rfl,by decide⟩
  clear q0 q1;generalize w2.drew=w3 at*;refine' kAa (i:=0) (v:=_) [1,2,5,12,13] (by kernel_rfl) rfl (by kernel_rfl) (fun _ _ _ h=>h) (by rfl) ?zh0 HCx.out ?zk0
  case zh0=>
   rintro w' ⟨c0,c1⟩
   go_simp
   try with_reducible rfl
  simp only[jA,jB,jC,Act.put,jD,jE,jF];refine' kAa (i:=1) (v:=_) [2,5,12,13] (by kernel_rfl) rfl (by kernel_rfl) (fun _ _ _ h=>h) (by rfl) ?zh1 HCx.out ?zk1
  case zh1=>
   rintro w' ⟨c0,c1⟩
   go_simp
   try with_reducible rfl
  simp only[jA,jB,jC,Act.put,jD,jE,jF];refine' kAa (i:=3) (v:=_) [4,5,12,13] (by kernel_rfl) rfl (by kernel_rfl) (fun _ _ _ h=>h) (by rfl) ?zh3 HCx.out ?zk3
  case zh3=>
   rintro w' ⟨c0,c1⟩
   go_simp
   try with_reducible rfl
  simp only[jA,jB,jC,Act.put,jD,jE,jF];refine' kAa (i:=6) (v:=_) [7,8,11,12,13] (by kernel_rfl) rfl (by kernel_rfl) (fun _ _ _ h=>h) (by rfl) ?zh6 HCx.out ?zk6
  case zh6=>
   rintro w' ⟨c0,c1⟩
   go_simp
   try with_reducible rfl
  simp only[jA,jB,jC,Act.put,jD,jE,jF];refine' kAa (i:=7) (v:=_) [8,11,12,13] (by kernel_rfl) rfl (by kernel_rfl) (fun _ _ _ h=>h) (by rfl) ?zh7 HCx.out ?zk7
  case zh7=>
   rintro w' ⟨c0,c1⟩
   go_simp
   try with_reducible rfl
  simp only[jA,jB,jC,Act.put,jD,jE,jF];refine' kAa (i:=9) (v:=_) [10,11,12,13] (by kernel_rfl) rfl (by kernel_rfl) (fun _ _ _ h=>h) (by rfl) ?zh9 HCx.out ?zk9
  case zh9=>
   rintro w' ⟨c0,c1⟩
   go_simp
   try with_reducible rfl
  simp only[jA,jB,jC,Act.put,jD,jE,jF]
  refine kHr [2,4,5,8,10,11] [12,13] (fun i=>if i≤5 then 0 else 1) (fun c=>if c=0 then kM3 2 4 5 39 41 42 w3.heap.size 21 n (ivs .i32 (L.map (·.1))) (.int .i32 to)else if c=1 then kM3 8 10 11 45 47 48 w3.heap.size 3 n (ivs .i64 (L.map (·.2))) (.int .i64 v)else fun _ _ _ _=>True) w3.heap.size w3 _ [] #[true,true,true,true,true,true,true,true,true,true,true,true,false,false] 2
   (kH3 (D:=[39,41,42,45,47,48]) (own:=fun i=>if i≤5 then 0 else 1) (by kernel_rfl)) (kJe (D:=[39,41,42,45,47,48]) (by kernel_rfl)) ?zhC ?zhloc ?zhstep ?zhend 6 _ _ _ (fun _ _=>False) (by kernel_rfl) rfl ?zhJ rfl (fun _ _=>rfl) (Below.refl _ _) jR (fun _ _ h=>h.elim) (fun _ _ _ _ h=>h.elim)
  case zhC=>
   intro w' hb;exact⟨(hb.cell (p:=⟨b0,0,none⟩) (World.block_lt_of_cell? w3 _ HCx.out.1)).trans HCx.out.1,(hb.cell (p:=⟨b0,1,none⟩) (World.block_lt_of_cell? w3 _ HCx.out.2)).trans HCx.out.2⟩
  case zhloc=>
   intro c l l' t t' T w w' hJ hl ht hsz hk
   by_cases c0:c=0
   ·subst c0;exact kIs hJ (hl 2 (by simp) rfl) (hl 4 (by simp) rfl) (hl 5 (by simp) rfl) (ht 2 (by simp) rfl 39 ⟨_,rfl,rfl⟩) (ht 4 (by simp) rfl 41 ⟨_,rfl,rfl⟩) (ht 5 (by simp) rfl 42 ⟨_,rfl,rfl⟩) hk
   ·by_cases c1:c=1
    ·subst c1;exact kIs hJ (hl 8 (by simp) rfl) (hl 10 (by simp) rfl) (hl 11 (by simp) rfl) (ht 8 (by simp) rfl 45 ⟨_,rfl,rfl⟩) (ht 10 (by simp) rfl 47 ⟨_,rfl,rfl⟩) (ht 11 (by simp) rfl 48 ⟨_,rfl,rfl⟩) hk
    ·rw[if_neg c0,if_neg c1];trivial
  case zhJ=>
   intro c
   by_cases c0:c=0
   ·subst c0;exact⟨(fun e=>by cases e),(fun e=>by cases e),(fun e=>by cases e),(fun e=>by cases e)⟩
   ·by_cases c1:c=1
    ·subst c1;exact⟨(fun e=>by cases e),(fun e=>by cases e),(fun e=>by cases e),(fun e=>by cases e)⟩
    ·rw[if_neg c0,if_neg c1];trivial
  case zhstep=>
   intro i hi o ho l a T w hisz hun hJ haft hz ho' hb hzz hT
   have hi':i=2∨i=4∨i=5∨i=8∨i=10∨i=11:=by simpa using hi
   have hsl:=fun s hs=>ho' s (kDy (D:=[39,41,42,45,47,48]) (own:=fun i=>if i≤5 then 0 else 1) (by kernel_rfl) hs)
   clear ho' hi;have hz50:a.tmps.size=50:=hz
   have hnb:n≤1114112:=by have:=HLb.out;have:=HN.out;omega
   rcases hi' with rfl | rfl | rfl | rfl | rfl | rfl
   ·obtain rfl:=Option.some.inj ho;exact⟨rfl,kIt el32 (by decide) (by decide) (by decide) rfl (by omega) rfl hisz hun hJ hzz hT (kBx (hsl 38 (by decide))) (by simp[ivs,HN.out]) (HT3.out.below hb jR).src HnT.out (kGk _ _) (by omega) (by unfold maxLen;omega)⟩
   ·obtain rfl:=Option.some.inj ho;exact⟨rfl,kIu (by decide) (by decide) (by decide) rfl (by omega) hisz hun hJ hzz hT (kIw 30 (.tmp 40) rfl _ (kBx (hsl 40 (by decide))) 21 (fun w=>by kernel_rfl))⟩
   ·obtain rfl:=Option.some.inj ho;exact⟨rfl,kFw el32 (by decide) (by decide) rfl (by omega) rfl hisz (haft ⟨2,.data⟩ (by simp) rfl) (haft ⟨4,.data⟩ (by simp) rfl) (kGj hun) hJ hzz hT rfl (by omega) (by unfold maxLen;omega)⟩
   ·obtain rfl:=Option.some.inj ho;exact⟨rfl,kIt el64 (by decide) (by decide) (by decide) rfl (by omega) rfl hisz hun hJ hzz hT (kBx (hsl 44 (by decide))) (by simp[ivs,HN.out]) (HV3.out.below hb jR).src HnV.out (kGk _ _) (by omega) (by unfold maxLen;omega)⟩
   ·obtain rfl:=Option.some.inj ho;exact⟨rfl,kIu (by decide) (by decide) (by decide) rfl (by omega) hisz hun hJ hzz hT (kIw 33 (.tmp 46) rfl _ (kBx (hsl 46 (by decide))) 3 (fun w=>by kernel_rfl))⟩
   ·obtain rfl:=Option.some.inj ho;exact⟨rfl,kFw el64 (by decide) (by decide) rfl (by omega) rfl hisz (haft ⟨8,.data⟩ (by simp) rfl) (haft ⟨10,.data⟩ (by simp) rfl) (kGj hun) hJ hzz hT rfl (by omega) (by unfold maxLen;omega)⟩
  case zhend=>
   intro a w T hd hJ hz ho hb hzz hT hdj;obtain⟨a1,c1,g1,g2, -⟩:=(hJ 0).2.2.1 rfl;obtain⟨a2,c2,g3,g4, -⟩:=(hJ 1).2.2.1 rfl;have he:=kK5 [39,41,42,45,47,48] hz (fun s hs=>ho s (kDy (D:=[39,41,42,45,47,48]) (own:=fun i=>if i≤5 then 0 else 1) (by kernel_rfl) hs))
   have k1:a.tmps.getD 42 undef= .slice a1 (n+1) c1:=by rw[Array.getD_eq_getD_getElem?,g1];rfl
   have k2:a.tmps.getD 48 undef= .slice a2 (n+1) c2:=by rw[Array.getD_eq_getD_getElem?,g3];rfl
   simp only[List.foldl_cons,List.foldl_nil,k1,k2]at he;obtain⟨tm,dfs⟩:=a;obtain rfl:dfs=[]:=hd;generalize tm.getD 39 undef=v39 at he;generalize tm.getD 41 undef=v41 at he;generalize tm.getD 45 undef=v45 at he;generalize tm.getD 47 undef=v47 at he;obtain rfl:tm=_:=he;refine kBp 12 (by rfl) (by kernel_rfl) (by kernel_rfl) ?_;simp only[List.drop_succ_cons,List.drop_zero,List.setIfInBounds_toArray,List.set_cons_zero,List.set_cons_succ];have xb:w.heap[b0+1]? =some (.cells #[.slice none 0 0,.slice none 0 0] 35 (0,0)):=(hb.block (b0+1) (by have:=HD.out.size;have:=HW.out.2.2.2;omega)).trans ((HD.out.block (b0+1) (by have:=HW.out.2.2.2;omega)).trans HW.out.2.2.1);have q1:=jK w (b0+1) 0 _ _ (0,0) xb;have q2:=jK w (b0+1) 1 _ _ (0,0) xb;have qf:=jO w (b0+1) 0 _ _ xb;have qf1:=jO w (b0+1) 1 _ _ xb;simp at q1 q2
   have XB:=jH xb;have G2:=jH g2;have G4:=jH g4
   have HB3:=jH hb;have HZ3:=jH hzz
   clear xb g1 g2 g3 g4 k1 k2 hJ hz ho hT hdj hb hzz fz p0 p1
   gi_wp2
   go_wp2
   have y1:=jP w (b0+1) 0 _ _ (.slice a1 (n+1) c1) XB.out;have y2:=jP _ (b0+1) 1 _ _ (.slice a2 (n+1) c2) y1;refine jS (results_cell_row rfl _ _ (b0+1) _ _ _ _ rfl y2 Tryz.underlying35 rfl rfl) rfl ?_
   have hzb:b0+1<w3.heap.size:=by have:=HD.out.size;have:=HW.out.2.2.2;omega
   have hg:w.grownBy ((w.setCell ⟨b0+1,0,none⟩ (.slice a1 (n+1) c1)).setCell ⟨b0+1,1,none⟩ (.slice a2 (n+1) c2)) (some (b0+1)):=kA4 (kAd w (b0+1) 0 _) (kAd _ (b0+1) 1 _)
   have o1:=G2.out.kept hg (by
    cases e2:(Value.slice a1 (n+1) c1).ownBlock with
    | none=>exact .inl rfl
    | some k=>exact .inr (fun e3=>by cases e3;have:=(World.ownsRow.lt G2.out _ e2).1;omega))
   have o2:=G4.out.kept hg (by
    cases e2:(Value.slice a2 (n+1) c2).ownBlock with
    | none=>exact .inl rfl
    | some k=>exact .inr (fun e3=>by cases e3;have:=(World.ownsRow.lt G4.out _ e2).1;omega))
   rw[HWl.out]
   refine⟨_,rfl,⟨a1,c1,a2,c2,?_,?_,?_,fun e=> ?_,fun e=> ?_⟩,?_,fun B hB hF=>⟨_,_,_,_,_,_,rfl,fun x e=>(by have:=kLi o1 x e;have:=HW.out.1.size;have:=HD.out.size;omega),fun x e=>(by have:=kLi o2 x e;have:=HW.out.1.size;have:=HD.out.size;omega)⟩⟩
   ·simp[HN.out]
   ·rw[List.map_append];exact Own.ints (by rw[kBi];exact o1)
   ·rw[List.map_append];exact Own.ints (by rw[kBi];exact o2)
   ·obtain⟨g,e2, -⟩:=Own.at o1 (by omega)
    rw[e2]at e;cases e
   ·obtain⟨g,e2, -⟩:=Own.at o2 (by omega)
    rw[e2]at e;cases e
   ·exact(((HW.out.1.trans (HD.out.mono HW.out.1.size)).trans (HB3.out.mono (Nat.le_trans HW.out.1.size HD.out.size))).setCell (p:=⟨b0+1,0,none⟩) (by show _≤b0+1;have:=HBz.out;omega) _).setCell (p:=⟨b0+1,1,none⟩) (by show _≤b0+1;have:=HBz.out;omega) _
end Go.Proofs.YtbmphakfgoompaaGreat

namespace Go.Proofs.YtbmphakfgoompaaGreat
open Go.RowKit
attribute [local go_sem] Oper.semAt_some
def kAk (F:Nat→Int):Nat→List (Int×Int)
 | 0=>[]
 | n+1=>kEz (kAk F n) (n:Nat) (F n)
theorem kN2 (L:List (Int×Int))(t t' v:Int):kEz (kEz L t v) t' v=kEz L t' v:=by
 unfold kEz
 cases h:L.getLast? with
 | none=>simp
 | some x=>
  simp only
  by_cases e:x.2=v
  ·rw[if_pos e];simp[e]
  ·rw[if_neg e];simp[e]
theorem kJq {F:Nat→Int}{at_:Nat}{v:Int}:∀k,(∀r,at_≤r→r≤at_+k→F r=v)→kEz (kAk F at_) ((at_+k:Nat):Int) v=kAk F (at_+k+1)
 | 0,h=>by rw[Nat.add_zero,kAk,h at_ jR jR]
 | k+1,h=>by
  rw[show at_+(k+1)+1=(at_+k+1)+1 by omega,kAk,←kJq k (fun r h1 h2=>h r h1 (by omega)),h (at_+k+1) (by omega) (by omega),kN2]
  rfl
theorem kFv (L:List (Int×Int))(t v:Int):(kEz L t v).length≤L.length+1:=by
 unfold kEz
 cases h:L.getLast? with
 | none=>simp
 | some x=>
  simp only
  split
  ·simp
  ·simp
theorem kCd (F:Nat→Int):∀n,(kAk F n).length≤n
 | 0=>Nat.le_refl _
 | n+1=>Nat.le_trans (kFv _ _ _) (Nat.succ_le_succ (kCd F n))
def kGw (k:IntKind) (w:World) (a:Option Addr) (l:List kAr):Prop:=∀i (h:i<l.length),∃b o,a=some ⟨b,o,none⟩∧w.cell? ⟨b,o+i*3,none⟩=some (.int .i32 l[i].f)∧w.cell? ⟨b,o+i*3+1,none⟩=some (.int .i32 l[i].t)∧w.cell? ⟨b,o+i*3+2,none⟩=some (.int k l[i].v)
theorem kGw.below {k:IntKind}{w w':World}{a:Option Addr}{l:List kAr}(h:kGw k w a l)(hb:Below w.heap.size w w'):kGw k w' a l:=fun i hi=>by
 obtain⟨b,o,e,h1,h2,h3⟩:=h i hi;have hl:=World.block_lt_of_cell? w _ h1;exact⟨b,o,e,(hb.cell (p:=⟨b,o+i*3,none⟩) hl).trans h1,(hb.cell (p:=⟨b,o+i*3+1,none⟩) hl).trans h2,(hb.cell (p:=⟨b,o+i*3+2,none⟩) hl).trans h3⟩
theorem kGw.at {k:IntKind}{w:World}{a:Option Addr}{l:List kAr}(h:kGw k w a l)(hn:0<l.length):∃b o,a=some ⟨b,o,none⟩:=by
 obtain⟨b,o,e, -⟩:=h 0 hn;exact⟨b,o,e⟩
theorem kGw.get {k:IntKind}{w:World}{b o:Nat}{l:List kAr}(h:kGw k w (some ⟨b,o,none⟩) l)(i:Nat)(hi:i<l.length):w.cell? ⟨b,o+i*3,none⟩=some (.int .i32 l[i].f)∧w.cell? ⟨b,o+i*3+1,none⟩=some (.int .i32 l[i].t)∧w.cell? ⟨b,o+i*3+2,none⟩=some (.int k l[i].v):=by
 obtain⟨b',o',e,h1⟩:=h i hi;cases e;exact h1
def kJ8 (s t:kAr):Prop:=s.f≤t.t∧t.f≤s.t
instance (s t:kAr):Decidable (kJ8 s t):=by unfold kJ8;infer_instance
theorem kQu {l:List kAr}{i:Nat}(hi:i<l.length)(hb:∀j,j<l.length→¬kNa (l.getD j default)):kNp l i↔∃k,∃h:k<i,kJ8 l[i] (l[k]'(by omega)):=by
 have hg:∀j (h:j<l.length),l.getD j default=l[j]:=fun j h=>by simp[List.getD_eq_getElem?_getD,h]
 constructor
 ·rintro⟨x,h1,h2⟩;rw[hg i hi]at h1;obtain⟨k,hk,h3, -⟩:=kJl h2;rw[List.length_take]at hk;rw[List.getElem_take]at h3;have h1:=of_decide_eq_true h1;have h3:=of_decide_eq_true h3;refine⟨k,by omega,?_⟩;unfold kJ8;omega
 ·rintro⟨k,hk,h1,h2⟩
  have b1:=hb i hi;rw[hg i hi]at b1
  have b2:=hb k (by omega);rw[hg k (by omega)]at b2
  unfold kNa at b1 b2
  obtain⟨x,hx⟩:∃x:Int,(l[i].f≤x∧x≤l[i].t)∧(l[k].f≤x∧x≤l[k].t):=by
   by_cases h:l[i].f≤l[k].f
   ·exact⟨l[k].f,by omega,by omega⟩
   ·exact⟨l[i].f,by omega,by omega⟩
  refine⟨x,by rw[hg i hi];exact decide_eq_true hx.1,?_⟩;unfold kPu
  cases hf:(l.take i).findIdx? (kJb x)with
  | none=>
   have:=List.findIdx?_eq_none_iff.1 hf l[k] (by rw[List.mem_take_iff_getElem];exact⟨k,by omega,rfl⟩);rw[show kJb x l[k]=true from decide_eq_true hx.2]at this;cases this
  | some j=>simp only;omega
def ScI (l:List kAr) (at_:Int) (wb:World) (v rest:Int) (tv iv:Value) (wr:World) (vv:Value):Prop:=
 ∃(k:Nat) (to:Int),k≤l.length∧iv= .int .i64 (k:Nat)∧tv= .int .i32 to∧vv= .int .i64 rest∧at_≤to∧to≤1114111∧(∀j (h:j<l.length),j<k→kJb at_ l[j]=false)∧(∀j (h:j<l.length),j<k→at_<l[j].f→to<l[j].f)∧Below wb.heap.size wb wr
theorem kRf {l:List kAr}{at_ to rest:Int}(h0:0≤at_)(h1:∀j (h:j<l.length),kJb at_ l[j]=false)(h2:∀j (h:j<l.length),at_<l[j].f→to<l[j].f):∀r:Nat,at_≤r→(r:Int)≤to→fS rest l r=rest:=by
 intro r hr1 hr2;refine kTb (fun s hs e=> ?_);obtain⟨j,hj,rfl⟩:=List.getElem_of_mem hs;have e:=of_decide_eq_true e
 by_cases hf:l[j].f≤at_
 ·have:=h1 j hj;rw[show kJb at_ l[j]=true from decide_eq_true ⟨hf,by omega⟩]at this;cases this
 ·have:=h2 j hj (by omega);omega
theorem kRg {l:List kAr}{at_ rest:Int}(ha:kKv l){j:Nat}(hj:j<l.length)(hf:l[j].f≤at_):∀r:Nat,at_≤r→(r:Int)≤l[j].t→fS rest l r=l[j].v:=fun r h1 h2=>
 kQf ha (List.getElem_mem hj) (decide_eq_true ⟨by omega,h2⟩)
def kS8 (w:World) (rest:Int) (l:List kAr) (e:Ending) (w':World):Prop:=
 Below w.heap.size w w'∧∃fv,
  ((∃i,i<l.length∧kNa (l.getD i default)∧(∀j,j<i→¬kNa (l.getD j default))∧fv= .agg #[.slice none 0 0,.slice none 0 0]∧e= .returned (.tuple #[fv,.int .i64 (i:Nat),.int .i64 110]))∨
  ((∀j,j<l.length→¬kNa (l.getD j default))∧∃k,k<l.length∧kNp l k∧(∀j,j<k→¬kNp l j)∧fv= .agg #[.slice none 0 0,.slice none 0 0]∧e= .returned (.tuple #[fv,.int .i64 (k:Nat),.int .i64 111]))∨
  (okS l∧e= .returned (.tuple #[fv,.int .i64 0,.int .i64 0])∧kC0 w' fv (kAk (fS rest l) 1114112)∧kLz w.heap.size fv))
theorem Ints.box {k:IntKind}{w:World}{bf:Nat}{x y:Value}{ty:TypeId}{a:Option Addr}{zs:List Int}(h:Ints k w a zs)(hx:w.heap[bf]? =Option.some (.cells #[x,y] ty (0,0)))(nx:∀z,x≠ .int k z)(ny:∀z,y≠ .int k z)(j:Nat)(u:Value):Ints k (w.setCell ⟨bf,j,none⟩ u) a zs:=by
 intro i hi;obtain⟨b,o,e,hc⟩:=h i hi;refine⟨b,o,e,?_⟩
 have hb:b≠bf:=by
  intro hb;subst hb;rw[jK w b (o+i) _ _ (0,0) hx]at hc
  match o+i,hc with
  | 0,hc=>exact nx _ (by simpa using hc)
  | 1,hc=>exact ny _ (by simpa using hc)
  | (m+2),hc=>simp at hc
 rw[World.cell?_of_block (w:=w) (a:=⟨b,o+i,none⟩) (jQ w ⟨bf,j,none⟩ b _ hb)];exact hc
theorem kC0.box {w:World}{bf:Nat}{x y:Value}{ty:TypeId}{fv:Value}{L:List (Int×Int)}(h:kC0 w fv L)(hx:w.heap[bf]? =some (.cells #[x,y] ty (0,0)))(nx:∀k z,x≠ .int k z)(ny:∀k z,y≠ .int k z)(j:Nat)(u:Value):kC0 (w.setCell ⟨bf,j,none⟩ u) fv L:=by
 obtain⟨aT,cT,aV,cV,h1,h2,h3,h4,h5⟩:=h;exact⟨aT,cT,aV,cV,h1,h2.box hx (nx _) (ny _) j u,h3.box hx (nx _) (ny _) j u,h4,h5⟩
def RbR4 (w7:World) (bf:Nat) (F:Nat→Int) (iv:Value) (W:World):Prop:=∃at_:Nat,at_≤1114112∧iv= .int .i32 (at_:Nat)∧(∃x y,W.heap[bf]? =some (.cells #[x,y] 35 (0,0))∧kC0 W (.agg #[x,y]) (kAk F at_)∧kLz w7.heap.size (.agg #[x,y]))∧Below w7.heap.size w7 W
def RbR2 (w0:World) (l:List kAr) (iv:Value) (wr:World):Prop:=∃k:Nat,k≤l.length∧iv= .int .i64 (k:Nat)∧(∀j,j<k→¬kNp l j)∧Below w0.heap.size w0 wr
def RbR3 (w0:World) (l:List kAr) (s:kAr) (i:Nat) (kv:Value) (wr:World):Prop:=∃k:Nat,k≤i∧kv= .int .i64 (k:Nat)∧(∀j (h:j<l.length),j<k→¬kJ8 s l[j])∧Below w0.heap.size w0 wr
def RbR1 (w0:World) (l:List kAr) (iv:Value) (wr:World):Prop:=∃k:Nat,k≤l.length∧iv= .int .i64 (k:Nat)∧(∀j,j<k→¬kNa (l.getD j default))∧Below w0.heap.size w0 wr
theorem kC8 (rest:Int)(a:Option Addr)(n c:Nat)(l:List kAr)(w:World)(hl:l.length=n)(hn:n≤1048576)(hs:kGw .i64 w a l)(hwf:∀s∈l, -2147483648≤s.f∧s.f≤2147483647∧ -2147483648≤s.t∧s.t≤2147483647):
  Calls Tryz.prog 26 #[.int .i64 rest,.slice a n c] w fun e w'=>kS8 w rest l e w':=by
 have HL:=jH hl;clear hl
 have HS:=jH hs;clear hs
 have HWf:=jH hwf;clear hwf
 have HA:=jH (jN w (.cells #[.slice none 0 0,.slice none 0 0] 35));have HB:=jH ((Below.refl _ w).alloc jR (.cells #[.slice none 0 0,.slice none 0 0] 35));have HZ:=jH (World.size_alloc w (.cells #[.slice none 0 0,.slice none 0 0] 35))
 obtain⟨b0,hb0⟩:∃b0,b0=w.heap.size:=⟨_,rfl⟩
 go_enter Tryz.func26,Tryz.ntmps26
 go_upto_region 1 with(fail)
 rw[←hb0]at HA HZ ⊢;generalize w.alloc (.cells #[.slice none 0 0,.slice none 0 0] 35)=w0 at*
 have HBz:=jH hb0;clear hb0
 have HS0:=jH (HS.out.below HB.out);go_wp2
 go_loopw [7] (RbR1 w0 l) (fun i _=>n - (intOf i).toNat)
 case atStart=>exact⟨0,Nat.zero_le _,rfl,fun j hj=>by omega,Below.refl _ _⟩
 case round=>
  obtain⟨k,hk,rfl,hgood,hbel⟩:=hrel
  have HGd:=jH hgood;clear hgood
  have HBe:=jH hbel;clear hbel
  rw[HL.out]at hk
  by_cases hkn:k<n
  ·have hki:(k:Int)<(n:Int):=by omega
   have hkl:k<l.length:=by rw[HL.out];exact hkn
   obtain⟨b,o,ha⟩:=HS0.out.at (by omega);subst ha;obtain⟨c1,c2,c3⟩:=(HS0.out.below HBe.out).get k hkl;have hwk:=HWf.out l[k] (List.getElem_mem hkl);have HGk:=jH (show l.getD k default=l[k] by simp[hkl]);generalize l[k]=s at*
   by_cases hb:kNa s
   ·have HBad:=jH hb
    have hcs:(s.f<0)∨(¬s.f<0∧1114111<s.t)∨(¬s.f<0∧¬1114111<s.t∧s.t<s.f):=by unfold kNa at hb;omega
    clear hb;have x0:=(HBe.out.block b0 (by have:=HZ.out;omega)).trans HA.out;have p0:=jK wr b0 0 _ _ (0,0) x0;have p1:=jK wr b0 1 _ _ (0,0) x0;have f0:=jO wr b0 0 _ _ x0;have f1:=jO wr b0 1 _ _ x0;simp at p0 p1
    have X0:=jH x0;clear x0
    have hbz:b0<wr.heap.size:=(jL X0.out)
    rcases hcs with h1 | ⟨h1,h2⟩ | ⟨h1,h2,h3⟩
    all_goals
     go_wp2
     have y1:=jP wr b0 0 _ _ (.slice none 0 0) X0.out;have y2:=jP _ b0 1 _ _ (.slice none 0 0) y1;have z0:=(Below.heap_alloc ((wr.setCell ⟨b0,0,none⟩ (.slice none 0 0)).setCell ⟨b0,1,none⟩ (.slice none 0 0)) (.cells #[.int .i32 s.f,.int .i32 s.t,.int .i64 s.v] 88) b0 (by simpa using hbz)).trans y2;have r0:(((wr.setCell ⟨b0,0,none⟩ (.slice none 0 0)).setCell ⟨b0,1,none⟩ (.slice none 0 0)).alloc (.cells #[.int .i32 s.f,.int .i32 s.t,.int .i64 s.v] 88)).cell? ⟨b0,0,none⟩=some (.slice none 0 0):=jK _ b0 0 _ _ (0,0) z0;have r1:(((wr.setCell ⟨b0,0,none⟩ (.slice none 0 0)).setCell ⟨b0,1,none⟩ (.slice none 0 0)).alloc (.cells #[.int .i32 s.f,.int .i32 s.t,.int .i64 s.v] 88)).cell? ⟨b0,1,none⟩=some (.slice none 0 0):=jK _ b0 1 _ _ (0,0) z0;refine jS (v:= .tuple #[.agg #[.slice none 0 0,.slice none 0 0],.int .i64 (k:Nat),.int .i64 110]) (by simp[results,Tryz.results26,go_sem,r0,r1]) rfl ?_;refine⟨?_,_,.inl ⟨k,hkl,by rw[HGk.out];exact HBad.out,HGd.out,rfl,rfl⟩⟩;exact(((HB.out.trans (HBe.out.mono HB.out.size)).setCell (p:=⟨b0,0,none⟩) (by show _≤b0;have:=HBz.out;omega) _).setCell (p:=⟨b0,1,none⟩) (by show _≤b0;have:=HBz.out;omega) _).alloc (by have:=HB.out.size;have:=HBe.out.size;simp;omega) _
   ·have HBad:=jH hb
    have hcs:¬s.f<0∧¬1114111<s.t∧¬s.t<s.f:=by unfold kNa at hb;omega
    obtain⟨h1,h2,h3⟩:=hcs;clear hb;go_wp2
    refine⟨⟨k+1,by omega,by go_num,fun j hj=> ?_,HBe.out.alloc HBe.out.size _⟩,by simp[intOf];omega⟩
    by_cases e:j=k
    ·rw[e,HGk.out];exact HBad.out
    ·exact HGd.out j (by omega)
  ·obtain rfl:k=n:=by omega
   have hki:¬(k:Int)<(k:Int):=by omega
   have HNb:Hid (∀j,j<l.length→¬kNa (l.getD j default)):=jH (fun j hj=>HGd.out j (by rw[←HL.out];exact hj));clear HGd;go_wp2
   go_loopw [9] (RbR2 w0 l) (fun i _=>k - (intOf i).toNat)
   case atStart=>exact⟨0,Nat.zero_le _,rfl,fun j hj=>by omega,HBe.out⟩
   case round=>
    clear HBe;obtain⟨i,hi,rfl,hnm,hbel⟩:=hrel
    have HNm:=jH hnm;clear hnm
    have HBe:=jH hbel;clear hbel
    rw[HL.out]at hi
    by_cases hik:i<k
    ·have hii:(i:Int)<(k:Int):=by omega
     have hil:i<l.length:=by rw[HL.out];exact hik
     obtain⟨b,o,ha⟩:=HS0.out.at (by omega);subst ha;have HMe:=jH (kQu hil HNb.out);have HGc:=jH (fun(W:World) (hb:Below w0.heap.size w0 W)=>(HS0.out.below hb).get i hil)
     obtain⟨s,hs⟩:∃s,s=l[i]:=⟨_,rfl⟩
     rw[←hs]at HGc HMe;go_wp2
     go_loopw [10] (RbR3 w0 l s i) (fun i' _=>i - (intOf i').toNat)
     case atStart=>exact⟨0,Nat.zero_le _,rfl,fun j _ hj=>by omega,HBe.out⟩
     case round=>
      clear HBe;obtain⟨m,hm,rfl,hno,hbel⟩:=hrel
      have HNo:=jH hno;clear hno
      have HBe:=jH hbel;clear hbel
      by_cases hmi:m<i
      ·have hmi':(m:Int)<(i:Int):=by omega
       have hmk':(m:Int)<(k:Int):=by omega
       have hml:m<l.length:=by omega
       obtain⟨c1,c2, -⟩:=HGc.out _ HBe.out;obtain⟨d1,d2, -⟩:=(HS0.out.below HBe.out).get m hml
       have HGm:=jH (fun j (h:j<l.length) (hj:j<m+1) (ht:¬kJ8 s l[m])=>show ¬kJ8 s l[j]from by
        by_cases e:j=m
        ·subst e;exact ht
        ·exact HNo.out j h (by omega))
       have HMt:=jH (fun(h:kJ8 s l[m])=>HMe.out.2 ⟨m,hmi,h⟩);clear hs;generalize l[m]=t at*
       by_cases hov:kJ8 s t
       ·have HYes:=jH (HMt.out hov);obtain⟨h1,h2⟩:=hov;go_wp2
        go_quiet (fail)
        have HB2:Hid (Below w0.heap.size w0 (wr.drewN nq)):=jH (below_drewN HBe.out nq);generalize wr.drewN nq=w6 at*;have x0:=(HB2.out.block b0 (by have:=HZ.out;omega)).trans HA.out;have p0:=jK w6 b0 0 _ _ (0,0) x0;have p1:=jK w6 b0 1 _ _ (0,0) x0;have f0:=jO w6 b0 0 _ _ x0;have f1:=jO w6 b0 1 _ _ x0;simp at p0 p1
        have X0:=jH x0;clear x0
        go_wp2
        have y1:=jP w6 b0 0 _ _ (.slice none 0 0) X0.out;have y2:=jP _ b0 1 _ _ (.slice none 0 0) y1;have r0:((w6.setCell ⟨b0,0,none⟩ (.slice none 0 0)).setCell ⟨b0,1,none⟩ (.slice none 0 0)).cell? ⟨b0,0,none⟩=some (.slice none 0 0):=jK _ b0 0 _ _ (0,0) y2;have r1:((w6.setCell ⟨b0,0,none⟩ (.slice none 0 0)).setCell ⟨b0,1,none⟩ (.slice none 0 0)).cell? ⟨b0,1,none⟩=some (.slice none 0 0):=jK _ b0 1 _ _ (0,0) y2;refine jS (v:= .tuple #[.agg #[.slice none 0 0,.slice none 0 0],.int .i64 (i:Nat),.int .i64 111]) (by simp[results,Tryz.results26,go_sem,r0,r1]) rfl ?_;refine⟨?_,_,.inr (.inl ⟨HNb.out,i,hil,HYes.out,HNm.out,rfl,rfl⟩)⟩;exact((HB.out.trans (HB2.out.mono HB.out.size)).setCell (p:=⟨b0,0,none⟩) (by show _≤b0;have:=HBz.out;omega) _).setCell (p:=⟨b0,1,none⟩) (by show _≤b0;have:=HBz.out;omega) _
       ·have HOv:=jH hov
        have hcs:¬s.f≤t.t∨(s.f≤t.t∧¬t.f≤s.t):=by unfold kJ8 at hov;omega
        clear hov
        rcases hcs with h1 | ⟨h1,h2⟩
        ·have e1:decide (s.f≤t.t)=false:=decide_eq_false h1
         go_upto_region 13 with(fail)
         refine wp_region_quiet_lit (by kernel_rfl) (by kernel_rfl) ?_
         iterate 24 (go_big_quiet_step (fail))
         refine wpQuiet_nil ?_;rintro _ ⟨nq,rfl⟩;have HB2:Hid (Below w0.heap.size w0 (wr.drewN nq)):=jH (below_drewN HBe.out nq);generalize wr.drewN nq=w6 at*;go_wp2
         go_roundw
         case rel=>exact⟨m+1,by omega,by go_num,fun j h hj=>HGm.out j h hj HOv.out,HB2.out⟩
         case measure=>simp[intOf];omega
        ·have e1:decide (s.f≤t.t)=true:=decide_eq_true h1;have e2:decide (t.f≤s.t)=false:=decide_eq_false h2
         go_upto_region 13 with(fail)
         refine wp_region_quiet_lit (by kernel_rfl) (by kernel_rfl) ?_
         iterate 24 (go_big_quiet_step (fail))
         refine wpQuiet_nil ?_;rintro _ ⟨nq,rfl⟩;have HB2:Hid (Below w0.heap.size w0 (wr.drewN nq)):=jH (below_drewN HBe.out nq);generalize wr.drewN nq=w6 at*;go_wp2
         go_roundw
         case rel=>exact⟨m+1,by omega,by go_num,fun j h hj=>HGm.out j h hj HOv.out,HB2.out⟩
         case measure=>simp[intOf];omega
      ·obtain rfl:m=i:=by omega
       have hmi':¬(m:Int)<(m:Int):=by omega
       have HNx:Hid (∀j,j<m+1→¬kNp l j):=jH (fun j hj=>by
        by_cases e:j=m
        ·subst e;intro h;obtain⟨q,hq,ho⟩:=HMe.out.1 h;exact HNo.out q (by omega) hq ho
        ·exact HNm.out j (by omega))
       go_wp2
       go_roundw
       case rel=>exact⟨m+1,by omega,by go_num,HNx.out,HBe.out⟩
       case measure=>simp[intOf];omega
    ·obtain rfl:i=k:=by omega
     have hii:¬(i:Int)<(i:Int):=by omega
     have HOk:Hid (okS l):=jH ⟨HNb.out,fun j hj=>HNm.out j (by rw[←HL.out];exact hj)⟩;have HAp:Hid (kKv l):=jH ((kI1 l).1 HOk.out.2)
     obtain⟨F,hF⟩:∃F,F=fS rest l:=⟨_,rfl⟩
     have HF:=jH hF;clear hF
     obtain⟨w7,hw7⟩:∃w7,w7=wr:=⟨_,rfl⟩
     rw[←hw7]at HBe ⊢;clear hw7;have E1:=jH (jN w7 (.cells #[.slice none 0 0,.slice none 0 0] 35));have E2:=jH ((Below.refl _ w7).alloc jR (.cells #[.slice none 0 0,.slice none 0 0] 35))
     obtain⟨bf,hbf⟩:∃bf,bf=w7.heap.size:=⟨_,rfl⟩
     have HBf:=jH hbf;rw[←hbf]at E1;go_wp2
     rw[←hbf];clear hbf;generalize w7.alloc (.cells #[.slice none 0 0,.slice none 0 0] 35)=w8 at*
     go_loopw [11] (RbR4 w7 bf F) (fun i _=>1114112 - (intOf i).toNat)
     case atStart=>exact⟨0,Nat.zero_le _,rfl,⟨_,_,E1.out,kC0.nil _,kLz.nil _⟩,E2.out⟩
     case round=>
      obtain⟨at_,hat,rfl,⟨x,y,hxy,hfn,hfar⟩,hbel⟩:=hrel
      have HFar:=jH hfar;clear hfar
      have HXy:=jH hxy;have HFn:=jH hfn;have HBl:=jH hbel
      clear hxy hfn hbel
      by_cases ha:at_≤1114111
      ·have hai:(at_:Int)≤1114111:=by omega
       obtain⟨w9,hw9⟩:∃w9,w9=wr:=⟨_,rfl⟩
       rw[←hw9]at HXy HFn HBl ⊢;clear hw9;have HS9:=jH (HS0.out.below (HBe.out.trans (HBl.out.mono HBe.out.size)));go_wp2
       go_loopw [13,14,15] (fun vv tv iv W'=>ScI l (at_:Nat) w9 0 rest tv iv W' vv) (fun _ _ i' _=>i - (intOf i').toNat)
       case atStart=>exact⟨0,1114111,Nat.zero_le _,rfl,rfl,rfl,by omega,by omega,fun j _ hj=>by omega,fun j _ hj=>by omega,Below.refl _ _⟩
       case round=>
        obtain⟨m,to,hm,rfl,rfl,rfl,hto1,hto2,hno,hah,hbel⟩:=hrel
        have HNo:=jH hno;have HAh:=jH hah;have HBm:=jH hbel
        clear hno hah hbel;rw[HL.out]at hm
        by_cases hmi:m<i
        ·have hmii:(m:Int)<(i:Int):=by omega
         have hml:m<l.length:=by rw[HL.out];exact hmi
         obtain⟨b,o,haa⟩:=HS9.out.at (by omega);subst haa;obtain⟨c1,c2,c3⟩:=(HS9.out.below HBm.out).get m hml
         have hnb:¬kNa l[m]:=by have:=HNb.out m hml;rwa[show l.getD m default=l[m] by simp[hml]]at this
         unfold kNa at hnb;have HSs:=jH (fun(hf:l[m].f≤(at_:Int))=>kRg (rest:=rest) HAp.out hml hf)
         have HNo2:=jH (fun(ht:kJb (at_:Nat) l[m]=false) j (h:j<l.length) (hj:j<m+1)=>show kJb (at_:Nat) l[j]=false from by
          by_cases e:j=m
          ·subst e;exact ht
          ·exact HNo.out j h (by omega))
         have HAh2:=jH (fun(to':Int) (hle:to'≤to) (ht:(at_:Int)<l[m].f→to'<l[m].f) j (h:j<l.length) (hj:j<m+1) (hf:(at_:Int)<l[j].f)=>show to'<l[j].f from by
          by_cases e:j=m
          ·subst e;exact ht hf
          ·have:=HAh.out j h (by omega) hf;omega)
         clear HNo HAh;generalize l[m]=s at*
         have hcs:(s.f≤(at_:Int)∧(at_:Int)≤s.t)∨((at_:Int)<s.f∧s.f≤to)∨((at_:Int)<s.f∧¬s.f≤to)∨(s.f≤(at_:Int)∧¬(at_:Int)≤s.t):=by omega
         rcases hcs with⟨h1,h2⟩ | ⟨h1,h2⟩ | ⟨h1,h2⟩ | ⟨h1,h2⟩
         ·have HCon:=jH (HSs.out h1);go_wp2
          go_quiet (fail)
          have HBq:Hid (Below w9.heap.size w9 ((wr.alloc (.cells #[.int .i32 s.f,.int .i32 s.t,.int .i64 s.v] 88)).drewN nq)):=jH (below_drewN (HBm.out.alloc HBm.out.size _) nq);generalize (wr.alloc (.cells #[.int .i32 s.f,.int .i32 s.t,.int .i64 s.v] 88)).drewN nq=w12 at*;clear c1 c2 c3
          obtain⟨d,hd⟩:∃d:Nat,s.t=((at_+d:Nat):Int):=⟨(s.t - at_).toNat,by omega⟩
          have hd2:at_+d≤1114111:=by omega
          have HRun:=jH (kJq (F:=F) (at_:=at_) (v:=s.v) d (fun r h1 h2=>by rw[HF.out];exact HCon.out r (by omega) (by omega)));have x0:=(HBq.out.block bf (jL HXy.out)).trans HXy.out;have p0:=jK w12 bf 0 _ _ (0,0) x0;have p1:=jK w12 bf 1 _ _ (0,0) x0;simp at p0 p1
          have X0:=jH x0;clear x0
          rw[hd];clear hd
          go_wp2_with fail
          refine(kKu w12 (.agg #[x,y]) (kAk F at_) ((at_+d:Nat):Int) s.v (by have:=kCd F at_;omega) (HFn.out.below HBq.out)).mono ?_;rintro e w20 ⟨fv,rfl,hf,hb,hfr⟩;have hfr2:=hfr w7.heap.size (Nat.le_trans HBl.out.size HBq.out.size) HFar.out;clear hfr;rw[HRun.out]at hf;have HF2:=jH hf;obtain⟨aT,cT,aV,cV,rfl, -⟩:=hf;obtain⟨aT0,cT0,aV0,cV0,hxe, -⟩:=HFn.out
          have hxe2:x= .slice aT0 (kAk F at_).length cT0∧y= .slice aV0 (kAk F at_).length cV0:=by simpa using hxe
          have x1:=(hb.block bf (jL X0.out)).trans X0.out;have p2:=jK w20 bf 0 _ _ (0,0) x1;have p3:=jK w20 bf 1 _ _ (0,0) x1;have f2:=jO w20 bf 0 _ _ x1;have f3:=jO w20 bf 1 _ _ x1;simp at p2 p3;have y1:=jP w20 bf 0 _ _ (.slice aT (kAk F (at_+d+1)).length cT) x1;have y2:=jP _ bf 1 _ _ (.slice aV (kAk F (at_+d+1)).length cV) y1
          have g1:=(HF2.out.box x1 (fun k z e=>by rw[hxe2.1]at e;cases e) (fun k z e=>by rw[hxe2.2]at e;cases e) 0 (.slice aT (kAk F (at_+d+1)).length cT)).box y1 (fun k z e=>by cases e) (fun k z e=>by
           have:y= .int k z:=e
           rw[hxe2.2]at this;cases this) 1 (.slice aV (kAk F (at_+d+1)).length cV)
          have HG:=jH (And.intro y2 (And.intro g1 hfr2));clear hfr2;have HB4:Hid (Below w7.heap.size w7 ((w20.setCell ⟨bf,0,none⟩ (.slice aT (kAk F (at_+d+1)).length cT)).setCell ⟨bf,1,none⟩ (.slice aV (kAk F (at_+d+1)).length cV))):=jH ((((HBl.out.trans (HBq.out.mono HBl.out.size)).trans (hb.mono (Nat.le_trans HBl.out.size HBq.out.size))).setCell (p:=⟨bf,0,none⟩) (by show _≤bf;rw[HBf.out];exact Nat.le_refl _) _).setCell (p:=⟨bf,1,none⟩) (by show _≤bf;rw[HBf.out];exact Nat.le_refl _) _);clear hxe hxe2 x1 y1 y2 g1 hb p0 p1;generalize (kAk F (at_+d+1)).length=nn at*;go_wp2
          go_roundw
          case rel=>exact⟨at_+d+1,by omega,by go_num,⟨_,_,HG.out⟩,HB4.out⟩
          case measure=>simp[intOf];omega
         ·have n1:¬s.f≤(at_:Int):=by omega
          have hh:kJb (at_:Nat) s=false:=decide_eq_false (by omega);go_wp2
          go_roundw
          case rel=>exact⟨m+1,s.f - 1,by omega,by go_num,rfl,rfl,by omega,by omega,HNo2.out hh,HAh2.out (s.f - 1) (by omega) (fun _=>by omega),HBm.out.alloc HBm.out.size _⟩
          case measure=>simp[intOf];omega
         ·have n1:¬s.f≤(at_:Int):=by omega
          have hh:kJb (at_:Nat) s=false:=decide_eq_false (by omega);go_wp2
          go_roundw
          case rel=>exact⟨m+1,to,by omega,by go_num,rfl,rfl,by omega,by omega,HNo2.out hh,HAh2.out to (by omega) (fun _=>by omega),HBm.out.alloc HBm.out.size _⟩
          case measure=>simp[intOf];omega
         ·have n1:¬(at_:Int)<s.f:=by omega
          have hh:kJb (at_:Nat) s=false:=decide_eq_false (by omega);go_wp2
          go_roundw
          case rel=>exact⟨m+1,to,by omega,by go_num,rfl,rfl,by omega,by omega,HNo2.out hh,HAh2.out to (by omega) (fun h=>by omega),HBm.out.alloc HBm.out.size _⟩
          case measure=>simp[intOf];omega
        ·obtain rfl:m=i:=by omega
         have HCon:Hid (∀r:Nat,(at_:Int)≤r→(r:Int)≤to→fS rest l r=rest):=jH (kRf (by omega) (fun j h=>HNo.out j h (by rw[←HL.out];exact h)) (fun j h=>HAh.out j h (by rw[←HL.out];exact h)));have HBq:=HBm
         obtain⟨d,hd⟩:∃d:Nat,to=((at_+d:Nat):Int):=⟨(to - at_).toNat,by omega⟩
         have hd2:at_+d≤1114111:=by omega
         have HRun:=jH (kJq (F:=F) (at_:=at_) (v:=rest) d (fun r h1 h2=>by rw[HF.out];exact HCon.out r (by omega) (by omega)));have x0:=(HBq.out.block bf (jL HXy.out)).trans HXy.out;have p0:=jK wr bf 0 _ _ (0,0) x0;have p1:=jK wr bf 1 _ _ (0,0) x0;simp at p0 p1
         have X0:=jH x0;clear x0
         rw[hd];clear hd
         go_wp2_with fail
         refine(kKu wr (.agg #[x,y]) (kAk F at_) ((at_+d:Nat):Int) rest (by have:=kCd F at_;omega) (HFn.out.below HBq.out)).mono ?_;rintro e w20 ⟨fv,rfl,hf,hb,hfr⟩;have hfr2:=hfr w7.heap.size (Nat.le_trans HBl.out.size HBq.out.size) HFar.out;clear hfr;rw[HRun.out]at hf;have HF2:=jH hf;obtain⟨aT,cT,aV,cV,rfl, -⟩:=hf;obtain⟨aT0,cT0,aV0,cV0,hxe, -⟩:=HFn.out
         have hxe2:x= .slice aT0 (kAk F at_).length cT0∧y= .slice aV0 (kAk F at_).length cV0:=by simpa using hxe
         have x1:=(hb.block bf (jL X0.out)).trans X0.out;have p2:=jK w20 bf 0 _ _ (0,0) x1;have p3:=jK w20 bf 1 _ _ (0,0) x1;have f2:=jO w20 bf 0 _ _ x1;have f3:=jO w20 bf 1 _ _ x1;simp at p2 p3;have y1:=jP w20 bf 0 _ _ (.slice aT (kAk F (at_+d+1)).length cT) x1;have y2:=jP _ bf 1 _ _ (.slice aV (kAk F (at_+d+1)).length cV) y1
         have g1:=(HF2.out.box x1 (fun k z e=>by rw[hxe2.1]at e;cases e) (fun k z e=>by rw[hxe2.2]at e;cases e) 0 (.slice aT (kAk F (at_+d+1)).length cT)).box y1 (fun k z e=>by cases e) (fun k z e=>by
          have:y= .int k z:=e
          rw[hxe2.2]at this;cases this) 1 (.slice aV (kAk F (at_+d+1)).length cV)
         have HG:=jH (And.intro y2 (And.intro g1 hfr2));clear hfr2;have HB4:Hid (Below w7.heap.size w7 ((w20.setCell ⟨bf,0,none⟩ (.slice aT (kAk F (at_+d+1)).length cT)).setCell ⟨bf,1,none⟩ (.slice aV (kAk F (at_+d+1)).length cV))):=jH ((((HBl.out.trans (HBq.out.mono HBl.out.size)).trans (hb.mono (Nat.le_trans HBl.out.size HBq.out.size))).setCell (p:=⟨bf,0,none⟩) (by show _≤bf;rw[HBf.out];exact Nat.le_refl _) _).setCell (p:=⟨bf,1,none⟩) (by show _≤bf;rw[HBf.out];exact Nat.le_refl _) _);clear hxe hxe2 x1 y1 y2 g1 hb p0 p1;generalize (kAk F (at_+d+1)).length=nn at*;go_wp2
         go_roundw
         case rel=>exact⟨at_+d+1,by omega,by go_num,⟨_,_,HG.out⟩,HB4.out⟩
         case measure=>simp[intOf];omega
      ·obtain rfl:at_=1114112:=by omega
       have x0:=HXy.out;have p0:=jK wr bf 0 _ _ (0,0) x0;have p1:=jK wr bf 1 _ _ (0,0) x0;simp at p0 p1;have hbw:=HBe.out.trans (HBl.out.mono HBe.out.size);have x1:=(hbw.block b0 (by have:=HZ.out;omega)).trans HA.out;have p2:=jK wr b0 0 _ _ (0,0) x1;have p3:=jK wr b0 1 _ _ (0,0) x1;have f2:=jO wr b0 0 _ _ x1;have f3:=jO wr b0 1 _ _ x1;simp at p2 p3
       have X1:=jH x1;have HBw:=jH hbw
       obtain⟨aT0,cT0,aV0,cV0,hxe, -⟩:=HFn.out
       have hxe2:x= .slice aT0 (kAk F 1114112).length cT0∧y= .slice aV0 (kAk F 1114112).length cV0:=by simpa using hxe
       clear x0 x1 hbw hxe;generalize (kAk F 1114112).length=nn at*;obtain⟨rfl,rfl⟩:=hxe2;go_wp2
       have y1:=jP wr b0 0 _ _ (.slice aT0 nn cT0) X1.out;have y2:=jP _ b0 1 _ _ (.slice aV0 nn cV0) y1;have r0:((wr.setCell ⟨b0,0,none⟩ (.slice aT0 nn cT0)).setCell ⟨b0,1,none⟩ (.slice aV0 nn cV0)).cell? ⟨b0,0,none⟩=some (.slice aT0 nn cT0):=jK _ b0 0 _ _ (0,0) y2;have r1:((wr.setCell ⟨b0,0,none⟩ (.slice aT0 nn cT0)).setCell ⟨b0,1,none⟩ (.slice aV0 nn cV0)).cell? ⟨b0,1,none⟩=some (.slice aV0 nn cV0):=jK _ b0 1 _ _ (0,0) y2;have g1:=(HFn.out.box X1.out (fun k z e=>by cases e) (fun k z e=>by cases e) 0 (.slice aT0 nn cT0)).box y1 (fun k z e=>by cases e) (fun k z e=>by cases e) 1 (.slice aV0 nn cV0);refine jS (v:= .tuple #[.agg #[.slice aT0 nn cT0,.slice aV0 nn cV0],.int .i64 0,.int .i64 0]) (by simp[results,Tryz.results26,go_sem,r0,r1]) rfl ?_;refine⟨?_,_,.inr (.inr ⟨HOk.out,rfl,by rw[←HF.out];exact g1,HFar.out.mono (Nat.le_trans HB.out.size HBe.out.size)⟩)⟩;exact((HB.out.trans (HBw.out.mono HB.out.size)).setCell (p:=⟨b0,0,none⟩) (by show _≤b0;have:=HBz.out;omega) _).setCell (p:=⟨b0,1,none⟩) (by show _≤b0;have:=HBz.out;omega) _
end Go.Proofs.YtbmphakfgoompaaGreat

namespace Go.Proofs.YtbmphakfgoompaaGreat
theorem kE0 (L:List (Int×Int))(t v:Int):(∃x,L=L.dropLast++[x]∧x.2=v∧kEz L t v=L.dropLast++[(t,v)])∨kEz L t v=L++[(t,v)]:=by
 unfold kEz
 cases h:L.getLast? with
 | none=>exact .inr (by rw[List.getLast?_eq_none_iff.1 h];rfl)
 | some x=>
  simp only
  by_cases e:x.2=v
  ·rw[if_pos e];obtain⟨hne,e2⟩:=List.getLast?_eq_some_iff.1 h;exact .inl ⟨x,by rw[e2];simp,e,rfl⟩
  ·rw[if_neg e];exact .inr rfl
theorem kE7 (F:Nat→Int):∀n,∀x∈kAk F n,x.1<(n:Int)
 | 0,x,h=>by simp[kAk]at h
 | n+1,x,h=>by
  have ih:=kE7 F n;rw[kAk]at h
  rcases kE0 (kAk F n) (n:Nat) (F n)with⟨y,h1,h2,h3⟩ | h3
  ·rw[h3]at h
   rcases List.mem_append.1 h with h | h
   ·have:=ih x (List.dropLast_subset _ h);omega
   ·rw[List.mem_singleton.1 h];simp only;omega
  ·rw[h3]at h
   rcases List.mem_append.1 h with h | h
   ·have:=ih x h;omega
   ·rw[List.mem_singleton.1 h];simp only;omega
theorem kFs (F:Nat→Int):∀n r,r<n→∃A x B,kAk F n=A++x :: B∧(∀y∈A,y.1<(r:Int))∧(r:Int)≤x.1∧x.2=F r
 | 0,r,h=>absurd h (Nat.not_lt_zero _)
 | n+1,r,h=>by
  have ih:=kFs F n;have hlt:=kE7 F n;rw[kAk]
  rcases kE0 (kAk F n) (n:Nat) (F n)with⟨y,h1,h2,h3⟩ | h3
  ·rw[h3]
   by_cases e:r=n
   ·subst e;exact⟨_,(_,_),[],rfl,fun z hz=>hlt z (List.dropLast_subset _ hz),Int.le_refl _,rfl⟩
   ·obtain⟨A,x,B,k1,k2,k3,k4⟩:=ih r (by omega);rw[h1]at k1
    rcases List.append_eq_append_iff.1 k1 with⟨C,e1,e2⟩ | ⟨C,e1,e2⟩
    ·cases C with
     | nil=>
      rw[List.nil_append]at e2
      have:y=x:=by simpa using (List.cons.inj e2).1
      subst this;refine⟨A,((n:Int),F n),[],?_,k2,by simp only;omega,by simp only;rw[←h2,k4]⟩
      rw[e1];simp
     | cons z C=>
      have:=congrArg List.length e2;simp at this
    ·cases C with
     | nil=>
      rw[List.nil_append]at e2
      have:x=y:=by simpa using (List.cons.inj e2).1
      subst this;refine⟨A,((n:Int),F n),[],?_,k2,by simp only;omega,by simp only;rw[←h2,k4]⟩
      rw[e1];simp
     | cons z C=>
      obtain⟨e3,e4⟩:=List.cons.inj e2;subst e3;exact⟨A,x,C++[((n:Int),F n)],by rw[e1];simp,k2,k3,k4⟩
  ·rw[h3]
   by_cases e:r=n
   ·subst e;exact⟨_,(_,_),[],rfl,hlt,Int.le_refl _,rfl⟩
   ·obtain⟨A,x,B,k1,k2,k3,k4⟩:=ih r (by omega);exact⟨A,x,B++[((n:Int),F n)],by rw[k1];simp,k2,k3,k4⟩
end Go.Proofs.YtbmphakfgoompaaGreat

namespace Go.Proofs.YtbmphakfgoompaaGreat
open Go.RowKit
def kKw (L:List (Int×Int)) (i r:Nat):Prop:=∀j (h:j<L.length),j<i→(L[j]).1<(r:Int)
theorem kKw.zero (L:List (Int×Int))(r:Nat):kKw L 0 r:=fun j _ h=>by omega
theorem kKw.mono {L:List (Int×Int)}{i r r':Nat}(h:kKw L i r)(hr:r≤r'):kKw L i r':=fun j hj hi=>by have:=h j hj hi;omega
theorem kKw.next {L:List (Int×Int)}{i r:Nat}(h:kKw L i r)(hi:i<L.length)(h2:(L[i]).1<(r:Int)):kKw L (i+1) r:=fun j hj hji=>by
 by_cases e:j=i
 ·subst e;exact h2
 ·exact h j hj (by omega)
theorem kJp {F:Nat→Int}{N r i:Nat}(hr:r<N)(h:kKw (kAk F N) i r):i<(kAk F N).length:=by
 obtain⟨A,x,B,k1,k2,k3,k4⟩:=kFs F N r hr
 by_cases hi:i<(kAk F N).length
 ·exact hi
 ·have hl:A.length<(kAk F N).length:=by rw[k1];simp
  have:=h A.length hl (by omega);simp only[k1]at this;rw[List.getElem_append_right (by omega)]at this;simp at this;omega
theorem kLl {F:Nat→Int}{N r i:Nat}(hr:r<N)(h:kKw (kAk F N) i r)(hi:i<(kAk F N).length)(h2:(r:Int)≤((kAk F N)[i]).1):((kAk F N)[i]).2=F r:=by
 obtain⟨A,x,B,k1,k2,k3,k4⟩:=kFs F N r hr
 have hl:A.length<(kAk F N).length:=by rw[k1];simp
 have hAx:(kAk F N)[A.length]=x:=by simp only[k1];rw[List.getElem_append_right (by omega)];simp
 rcases Nat.lt_trichotomy i A.length with e | e | e
 ·have:(kAk F N)[i]∈A:=by simp only[k1];rw[List.getElem_append_left e];exact List.getElem_mem e
  have:=k2 _ this;omega
 ·subst e;rw[hAx];exact k4
 ·have:=h A.length hl e;rw[hAx]at this;omega
def GeL (L:List (Int×Int)) (i r:Nat):Prop:=∀j (h:j<L.length),i≤j→(r:Int)≤(L[j]).1
theorem kHf (F:Nat→Int):∀n,(kAk F n).Pairwise (fun x y=>x.1<y.1)
 | 0=>by simp[kAk]
 | n+1=>by
  have ih:=kHf F n;have hlt:=kE7 F n;rw[kAk]
  rcases kE0 (kAk F n) (n:Nat) (F n)with⟨y,h1,h2,h3⟩ | h3
  ·rw[h3];rw[h1]at ih;refine List.pairwise_append.2 ⟨(List.pairwise_append.1 ih).1,by simp,fun a ha b hb=> ?_⟩;rw[List.mem_singleton.1 hb];exact hlt a (List.dropLast_subset _ ha)
  ·rw[h3];refine List.pairwise_append.2 ⟨ih,by simp,fun a ha b hb=> ?_⟩;rw[List.mem_singleton.1 hb];exact hlt a ha
structure kGv (F:Nat→Int) (N i r:Nat):Prop where
 cur:kKw (kAk F N) i r
 ge:GeL (kAk F N) i r
theorem kGv.zero (F:Nat→Int)(N:Nat):kGv F N 0 0:=⟨kKw.zero _ _,fun j hj _=>by
 have:∀n,∀x∈kAk F n,(0:Int)≤x.1:=by
  intro n
  induction n with
  | zero=>intro x hx;simp[kAk]at hx
  | succ n ih=>
   intro x hx;rw[kAk]at hx
   rcases kE0 (kAk F n) (n:Nat) (F n)with⟨y,h1,h2,h3⟩ | h3
   ·rw[h3]at hx
    rcases List.mem_append.1 hx with h | h
    ·exact ih x (List.dropLast_subset _ h)
    ·rw[List.mem_singleton.1 h];simp only;omega
   ·rw[h3]at hx
    rcases List.mem_append.1 hx with h | h
    ·exact ih x h
    ·rw[List.mem_singleton.1 h];simp only;omega
 exact this N _ (List.getElem_mem hj)⟩
theorem kGv.val {F:Nat→Int}{N i r:Nat}(h:kGv F N i r)(hi:i<(kAk F N).length){q:Nat}(h1:r≤q)(h2:(q:Int)≤((kAk F N)[i]).1):((kAk F N)[i]).2=F q:=by
 have:=kE7 F N _ (List.getElem_mem hi);exact kLl (by omega) (h.cur.mono h1) hi h2
theorem kGv.over {F:Nat→Int}{N i r:Nat}(h:kGv F N i r)(hi:i<(kAk F N).length){t:Nat}(ht:((kAk F N)[i]).1=(t:Nat)):kGv F N (i+1) (t+1):=by
 have hr:=h.ge i hi jR;refine⟨(h.cur.mono (by omega)).next hi (by omega),fun j hj hij=> ?_⟩;have:=List.pairwise_iff_getElem.1 (kHf F N) i j hi hj (by omega);omega
theorem kGv.done {F:Nat→Int}{N i r:Nat}(h:kGv F N i r)(hi:¬i<(kAk F N).length):N≤r:=Decidable.byContradiction fun hr=>hi (kJp (by omega) h.cur)
end Go.Proofs.YtbmphakfgoompaaGreat

namespace Go.Proofs.YtbmphakfgoompaaGreat
open Go.RowKit
def kBf (w:World) (v:Value) (F:Nat→Nat→Int):Prop:=
 ∃x0 x1 x2 x3 x4 x5 x6 x7,v= .agg #[x0,x1,x2,x3,x4,x5,x6,x7]∧kC0 w (.agg #[x0,x1]) (kAk (F 0) 1114112)∧kC0 w (.agg #[x2,x3]) (kAk (F 1) 1114112)∧kC0 w (.agg #[x4,x5]) (kAk (F 2) 1114112)∧kC0 w (.agg #[x6,x7]) (kAk (F 3) 1114112)
theorem kBf.below {w w':World}{v:Value}{F:Nat→Nat→Int}(h:kBf w v F)(hb:Below w.heap.size w w'):kBf w' v F:=by
 obtain⟨x0,x1,x2,x3,x4,x5,x6,x7,e,h0,h1,h2,h3⟩:=h;exact⟨x0,x1,x2,x3,x4,x5,x6,x7,e,h0.below hb,h1.below hb,h2.below hb,h3.below hb⟩
theorem kC0.slices {w:World}{x y:Value}{L:List (Int×Int)}(h:kC0 w (.agg #[x,y]) L):(∃a n c,x= .slice a n c)∧(∃a n c,y= .slice a n c):=by
 obtain⟨aT,cT,aV,cV,h1, -⟩:=h;have:=h1;simp at this;exact⟨⟨_,_,_,this.1⟩,⟨_,_,_,this.2⟩⟩
end Go.Proofs.YtbmphakfgoompaaGreat
