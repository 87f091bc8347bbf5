/- several texts in one: Base Base2 Base3 Base4 Base5 TM TB TS -/
import Derived.WalkKit
import Derived.WalkSpells
import Derived.WalkLawsBesides
import Derived.Lib.Hide
import Derived.Handy
import Derived.WalkSmall
import Derived.Deep.MidRow
import Derived.DeepKeys3
import Derived.MapKept
set_option linter.unusedVariables false
set_option linter.unusedSimpArgs false
set_option maxRecDepth 100000
set_option maxHeartbeats 16000000
namespace Go.Proofs.Ytabbabkmojaoaaa
open Go.RowKit
theorem jA{α:Type}{xs:List α}{i:Nat}(h:i<xs.toArray.size):xs.toArray[i]=xs[i]'(by simpa using h):=List.getElem_toArray h
theorem jB{α:Type}(a:α)(l:List α)(h:0<(a :: l).length):(a :: l)[0]=a:=rfl
theorem jC{α:Type}(a:α)(l:List α)(i:Nat)(h:i+1<(a :: l).length):(a :: l)[i+1]=l[i]'(Nat.lt_of_succ_lt_succ h):=rfl
theorem jD{α:Type}(l:List α)(i:Nat)(a:α):l.toArray.setIfInBounds i a=(l.set i a).toArray:=List.setIfInBounds_toArray l i a
theorem jE{α:Type}{x:α}{xs:List α}{a:α}:(x :: xs).set 0 a=a :: xs:=rfl
theorem jF{α:Type}{x:α}{xs:List α}{i:Nat}{a:α}:(x :: xs).set (i+1) a=x :: xs.set i a:=rfl
theorem jG{α:Type}{xs:List α}{i:Nat}:xs.toArray[i]? =xs[i]? :=List.getElem?_toArray
theorem jI{α:Type}{a:α}{l:List α}:(a :: l)[0]? =some a:=rfl
theorem jJ{α:Type}{a:α}{l:List α}{i:Nat}:(a :: l)[i+1]? =l[i]? :=rfl
theorem jL{w:World}{g:Nat}{o:Obj}(h:w.heap[g]? =some o):g<w.heap.size:=(Array.getElem?_eq_some_iff.1 h).1
theorem jH{p:Prop}(h:p):Hid p:=Lib.hid h
theorem jR{n:Nat}:n≤n:=Nat.le_refl n
abbrev jK:=@cell_of_row
abbrev jN:=@heap_alloc_new
abbrev jO:=@frozen_of_row
abbrev jP:=@heap_setCell_same
abbrev jQ:=@heap_setCell_other
abbrev jS:=@bodyPost_ret
def Ints (k:IntKind) (w:World) (a:Option Addr) (zs:List Int):Prop:=
 ∀i (h:i<zs.length),∃b o,a=some ⟨b,o,none⟩∧w.cell? ⟨b,o+i,none⟩=some (.int k zs[i])
def Own (B:Nat) (E:TypeId) (w:World) (a:Option Addr) (n cap:Nat) (xs:List Value):Prop:=
 w.ownsRow B E 1 (.slice a n cap) n xs
def ivs (k:IntKind) (zs:List Int):List Value:=zs.map (.int k)
theorem kCy (k:IntKind)(zs:List Int):(ivs k zs).length=zs.length:=by simp[ivs]
theorem kEc (k:IntKind)(a b:List Int):ivs k (a++b)=ivs k a++ivs k b:=by simp[ivs]
theorem kJu (k:IntKind)(a:List Int)(i:Nat)(x:Int):(ivs k a).set i (.int k x)=ivs k (a.set i x):=by simp[ivs,List.map_set]
theorem kF5 (k:IntKind)(n:Nat)(x:Int):List.replicate n (Value.int k x)=ivs k (List.replicate n x):=by simp[ivs]
theorem Ints.nil (k:IntKind)(w:World)(a:Option Addr):Ints k w a []:=fun i h=>absurd h (by simp)
theorem Ints.get {k:IntKind}{w:World}{b o:Nat}{zs:List Int}(h:Ints k w (some ⟨b,o,none⟩) zs)(i:Nat)(hi:i<zs.length):
  w.cell? ⟨b,o+i,none⟩=some (.int k zs[i]):=by
 obtain⟨b',o',e,hc⟩:=h i hi;simp only[Option.some.injEq,Addr.mk.injEq,and_true]at e;obtain⟨rfl,rfl⟩:=e;exact hc
theorem Ints.some {k:IntKind}{w:World}{a:Option Addr}{zs:List Int}(h:Ints k w a zs)(hn:0<zs.length):∃b o,a= .some ⟨b,o,none⟩:=by
 obtain⟨b,o,e,_⟩:=h 0 hn;exact⟨b,o,e⟩
theorem Ints.below {k:IntKind}{w w':World}{B:Nat}{a:Option Addr}{zs:List Int}(h:Ints k w a zs)(hb:Below B w w')(hB:w.heap.size≤B):Ints k w' a zs:=by
 intro i hi;obtain⟨b,o,rfl,hc⟩:=h i hi;have hl:=World.block_lt_of_cell? w _ hc;exact⟨b,o,rfl,by rw[hb.cell (p:=⟨b,o+i,none⟩) (by simp at hl ⊢;omega)];exact hc⟩
theorem Own.nil (B:Nat)(E:TypeId)(w:World):Own B E w none 0 0 []:=World.ownsRow_nil w B E 1
theorem Own.len {B:Nat}{E:TypeId}{w:World}{a:Option Addr}{n cap:Nat}{xs:List Value}(h:Own B E w a n cap xs):xs.length=n:=by simpa using h.1
theorem Own.lenI {B:Nat}{E:TypeId}{w:World}{a:Option Addr}{n cap:Nat}{k:IntKind}{zs:List Int}(h:Own B E w a n cap (ivs k zs)):zs.length=n:=by
 simpa [ivs]using h.len
theorem Own.at {B:Nat}{E:TypeId}{w:World}{a:Option Addr}{n cap:Nat}{xs:List Value}(h:Own B E w a n cap xs)(hn:0<n):
  ∃g,a=some ⟨g,0,none⟩∧B≤g∧g<w.heap.size∧n≤cap∧cap≤maxLen:=by
 rcases h.2 with⟨_,h0⟩ | ⟨g,cap',cur,e,hb,hg,hnc,hcm,_⟩
 ·omega
 ·simp only[Value.slice.injEq]at e;obtain⟨rfl,_,rfl⟩:=e;exact⟨g,rfl,hb,(jL hg),hnc,hcm⟩
theorem Own.cell {B:Nat}{E:TypeId}{w:World}{g n cap:Nat}{xs:List Value}(h:Own B E w (some ⟨g,0,none⟩) n cap xs)(i:Nat)(hi:i<xs.length):
  w.cell? ⟨g,i,none⟩=some xs[i]:=by
 have hl:=h.len;rw[World.ownsRow.cellAt h i (by omega)];simp[hi]
theorem Own.ints {B:Nat}{E:TypeId}{w:World}{a:Option Addr}{n cap:Nat}{k:IntKind}{zs:List Int}(h:Own B E w a n cap (ivs k zs)):Ints k w a zs:=by
 intro i hi;have hl:=h.lenI;obtain⟨g,rfl,_⟩:=h.at (by omega);refine⟨g,0,rfl,?_⟩;have:=h.cell i (by simpa [ivs]using hi)
 simpa [ivs]using this
theorem Own.below {B B':Nat}{E:TypeId}{w w':World}{a:Option Addr}{n cap:Nat}{xs:List Value}(h:Own B E w a n cap xs)(hb:Below B' w w')(hB:w.heap.size≤B'):Own B E w' a n cap xs:=by
 refine⟨h.1,?_⟩
 rcases h.2 with hn | ⟨g,cap,cur,e,hbg,hgg,rest⟩
 ·exact .inl hn
 ·exact .inr ⟨g,cap,cur,e,hbg,by rw[hb.block g (by have:=(jL hgg);omega)];exact hgg,rest⟩
theorem Own.store {B:Nat}{E:TypeId}{w:World}{g n cap:Nat}{xs:List Value}(h:Own B E w (some ⟨g,0,none⟩) n cap xs)(j:Nat)(u:Value):
  Own B E (w.setCell ⟨g,j,none⟩ u) (some ⟨g,0,none⟩) n cap (xs.set j u):=(World.ownsRow.stored h j u).1
theorem Own.unfrozen {B:Nat}{E:TypeId}{w:World}{g n cap:Nat}{xs:List Value}(h:Own B E w (some ⟨g,0,none⟩) n cap xs)(j:Nat):
  w.frozen? ⟨g,j,none⟩=false:=World.ownsRow.frozenAt h j
structure kLo (P:Program) (t e:TypeId) (z:Value) (bytes:Nat):Prop where
 und:P.underlying t=some (.slice e)
 inf:(P.info? e).map (fun i=>(i.zero,i.size,i.bytes))=some (some z,1,bytes)
 one:z.cells.size=1
def kBk (w:World) (v v':Value):Prop:=v'.ownBlock=v.ownBlock∨∃g,v'.ownBlock=some g∧w.heap.size≤g
theorem kGp {P:Program}(w:World)(base:Nat)(t ty e:TypeId)(i:TypeInfo)(z:Value)(size bytes:Nat)(ht:P.underlying t=some (.slice e))(hi:P.info? e=some i)(hz:i.zero=some z)
  (hsize:i.size=size)(hby:i.bytes=bytes)(hzs:z.cells.size=size)(hsz:0<size)
  (v:Value)(n:Nat)(xs:List Value)(hown:w.ownsRow base e size v n xs)
  (a:Addr)(m c:Nat)(news:List Value)(hl:news.length=m*size)(hnews:∀j u,news[j]? =some u→w.cell? (a.add j)=some u)(h1:∀u∈news,u.oneCell'=true)
  (h63:n+m≤maxLen)(hbytes:(n+m)*bytes≤140737488355328)(hbase:base≤w.heap.size):
  ∃v' w',(Builtin.append_ #[t,t] ty #[v,.slice (some a) m c]).run P w= .ok v' w'∧w'.ownsRow base e size v' (n+m) (xs++news)∧w.grownBy w' v.ownBlock∧kBk w v v':=by
 obtain⟨v',w',hr,h2,h3,h4⟩:=run_append_own (P:=P) w base t ty e i z size bytes ht hi hz hsize hby hzs hsz v n xs hown a m c news hl hnews h1 h63 hbytes hbase;refine⟨v',w',hr,h2,h3,?_⟩;subst hsize;subst hby
 have hsmall:n+m≤9223372036854775807:=by simp only[maxLen]at h63;omega
 rcases hown.2 with⟨rfl,rfl⟩ | ⟨g,cap,cur,rfl,hbg,hg,hnc,hcm,hcs,htake⟩
 ·by_cases hm:m=0
  ·have:=h4.2 ⟨rfl,hm⟩;subst this;exact .inl rfl
  ·have hr2:=run_append_nil (P:=P) w t ty e i z ht hi hz a m c news hl hnews (by omega) (by omega) (by have hb:=hbytes;simp only[Nat.zero_add]at hb;omega);rw[hr2]at hr;simp only[Result.ok.injEq]at hr;rw[←hr.1];exact .inr ⟨w.heap.size,rfl,Nat.le_refl _⟩
 ·by_cases hroom:n+m≤cap
  ·have hfit:n*i.size+news.length≤cur.size:=by rw[hl,hcs,←Nat.add_mul];exact Nat.mul_le_mul_right _ hroom
   have hr2:=run_append_room (P:=P) w t ty e i ht hi g n cap cur hg a m c news hl hnews h1 hroom hfit;rw[hr2]at hr;simp only[Result.ok.injEq]at hr;rw[←hr.1];exact .inl rfl
  ·have holds:∀j u,xs[j]? =some u→w.cell? ((⟨g,0,none⟩:Addr).add j)=some u:=hown.cells (g:=g) rfl;have hr2:=run_append_grow (P:=P) w t ty e i z ht hi hz ⟨g,0,none⟩ n cap xs hown.1 holds a m c news hl hnews (by omega) (by omega) (growslice_fits (by omega) hbytes);rw[hr2]at hr;simp only[Result.ok.injEq]at hr;rw[←hr.1];exact .inr ⟨w.heap.size,rfl,Nat.le_refl _⟩
theorem kFl {P:Program}{t e:TypeId}{z:Value}{bytes:Nat}(el:kLo P t e z bytes){w:World}{ops:Array Oper}{rest:List Oper}{o:Oper}{act:Act}{Q:Exit→Act→World→Prop}(hgd:o.guard=none)(s x:Operand)
  (ho:o.op= .call {callee:= .builtin .append,args:= #[s,x],argTypes:= #[t,t]}){B:Nat}{a:Option Addr}{n cap:Nat}{xs:List Value}(hown:Own B e w a n cap xs)(hB:B≤w.heap.size)(hn:(n+1)*bytes≤140737488355328)(hm:n<140737488355328)(u:Value)(hu:u.oneCell'=true)(e':TypeId)
  (hs:act.eval s= .slice a n cap)(hx:act.eval x= .slice (some ⟨w.heap.size,0,none⟩) 1 1)
  (h:∀a' cap' w',Own B e w' a' (n+1) cap' (xs++[u])→w.grownBy w' (Value.slice a n cap).ownBlock→kBk w (.slice a n cap) (.slice a' (n+1) cap')→wpList P ops Q rest (act.put o.dst (.slice a' (n+1) cap')) w'):
  wpList P ops Q (o :: rest) act (w.alloc (.cells #[u] e')):=by
 obtain⟨i,hi,hz,h1,hb⟩:=info_parts el.inf
 refine wpList_plain hgd fun K hK'=> ?_
 have hcell:∀j v,[u][j]? =some v→(w.alloc (.cells #[u] e')).cell? ((⟨w.heap.size,0,none⟩:Addr).add j)=some v:=by
  intro j v hv
  have hj:j=0:=by
   have:=(List.getElem?_eq_some_iff.1 hv).1
   simp at this;exact this
  subst hj
  simp at hv;subst hv
  rw[show((⟨w.heap.size,0,none⟩:Addr).add 0)=⟨w.heap.size,0,none⟩from by simp[Addr.add]];rw[jK (w.alloc (.cells #[u] e')) w.heap.size 0 #[u] e' (0,0) (jN w _)]
  rfl
 obtain⟨v',w',hr,h2,h3,h4⟩:=kGp (P:=P) (w.alloc (.cells #[u] e')) B t o.type e i z 1 bytes el.und hi hz h1 hb el.one (by decide) _ n xs (World.ownsRow.alloc hown _) ⟨w.heap.size,0,none⟩ 1 1 [u] rfl hcell (by intro v hv;simp at hv;subst hv;exact hu) (by simp only[maxLen];omega) hn (by simp;omega);unfold Oper.wp execOp;simp only[ho,resolve,invoke,builtin,Sem.run_bind,Sem.run_pure,Result.andThen_ok,List.map_toArray,List.map_cons,List.map_nil,hs,hx,hr]
 have hv':∃a' cap',v'= .slice a' (n+1) cap':=by
  rcases h2.2 with⟨rfl,h0⟩ | ⟨g,cap',cur,rfl,_⟩
  ·omega
  ·exact⟨_,_,rfl⟩
 obtain⟨a',cap',rfl⟩:=hv'
 refine hK' _ _ (h a' cap' w' h2 ?_ ?_)
 ·refine⟨h3.os,h3.tape,h3.output,by have:=h3.size;simp at this;omega,fun k hk hne=> ?_⟩;rw[h3.block k (by simp;omega) hne];exact Below.heap_alloc w _ k hk
 ·rcases h4 with h4 | ⟨g,h4,h5⟩
  ·exact .inl h4
  ·exact .inr ⟨g,h4,by simp at h5;omega⟩
theorem kJa {P:Program}{t e:TypeId}{z:Value}{bytes:Nat}(el:kLo P t e z bytes)(hz1:z.cells= #[z]){w:World}{ops:Array Oper}{rest:List Oper}{o:Oper}{act:Act}{Q:Exit→Act→World→Prop}(hgd:o.guard=none)(l c:Operand)
  (ho:o.op= .makeSlice t l c)(n:Nat)(hb:bytes*n≤281474976710656)(hm:n≤maxLen)(hl:act.eval l= .int .i64 (n:Int))(hc:act.eval c= .int .i64 (n:Int))
  (h:∀w',Own w.heap.size e w' (some ⟨w.heap.size,0,none⟩) n n (List.replicate n z)→Below w.heap.size w w'→w'.heap.size=w.heap.size+1→wpList P ops Q rest (act.put o.dst (.slice (some ⟨w.heap.size,0,none⟩) n n)) w'):
  wpList P ops Q (o :: rest) act w:=by
 obtain⟨i,hi,hz,h1,hb'⟩:=info_parts el.inf;subst hb'
 refine wpList_plain hgd fun K hK'=> ?_
 have h63':(n:Int)≤9223372036854775807:=by simp[maxLen]at hm;omega
 have hb'':(i.bytes:Int)*(n:Int)≤281474976710656:=by
  have h:((i.bytes*n:Nat):Int)≤281474976710656:=by omega
  rwa[Int.natCast_mul]at h
 have hr:=run_make (P:=P) w t e i z el.und hi hz .i64 .i64 n n (by omega) (Int.le_refl _) hb'' h63';simp only[Int.toNat_natCast]at hr;unfold Oper.wp;simp[execOp,ho,hl,hc,hr,Result.andThen];refine hK' _ _ (h _ ?_ ((Below.refl _ _).alloc jR _) (by simp));have:=World.ownsRow_lit (size:=1) (e:=e) w (madeCells z.cells (n*i.size)) n jR hm (by rw[size_madeCells,h1]);rw[h1,hz1,Nat.mul_one,toList_madeCells_one]at this;rw[h1,hz1,Nat.mul_one];exact this
theorem Below.ofGrown {w w':World}{B:Nat}{v:Value}(hg:w.grownBy w' v.ownBlock)(hB:B≤w.heap.size)(hr:∀k,v.ownBlock=some k→B≤k):Below B w w':=
 (Below.refl B w).grown hg hB hr
theorem Own.blk {B:Nat}{E:TypeId}{w:World}{a:Option Addr}{n cap:Nat}{xs:List Value}(h:Own B E w a n cap xs):∀k,(Value.slice a n cap).ownBlock=some k→B≤k:=
 fun k hk=>(World.ownsRow.lt h k hk).1
theorem Own.app {B:Nat}{E:TypeId}{w w':World}{a:Option Addr}{n cap:Nat}{xs:List Value}(h:Own B E w a n cap xs)(hg:w.grownBy w' (Value.slice a n cap).ownBlock)(hB:B≤w.heap.size):Below B w w':=
 Below.ofGrown hg hB h.blk
theorem kAe (w:World)(g j:Nat)(u:Value):w.grownBy (w.setCell ⟨g,j,none⟩ u) (some g):=
 ⟨rfl,rfl,rfl,by simp,fun k _ hk=>jQ w ⟨g,j,none⟩ k u (fun e=>hk (by simp[e]))⟩
theorem kAm {a b c:World}{row:Option Nat}(h:a.grownBy b row)(k:b.grownBy c row):a.grownBy c row:=
 ⟨k.os.trans h.os,k.tape.trans h.tape,k.output.trans h.output,Nat.le_trans h.size k.size,fun i hi hne=>(k.block i (Nat.lt_of_lt_of_le hi h.size) hne).trans (h.block i hi hne)⟩
def IsRow (k:IntKind) (w:World) (a:Option Addr) (len cap:Nat) (zs:List Int):Prop:=
 (a=none∧len=0∧cap=0∧zs=[])∨
 ∃x,a=some x∧len≤cap∧cap≤maxLen∧zs.length=cap∧(∀i,i<zs.length→w.cell? (x.add i)=some (.int k (zs.getD i 0)))∧∀n∈zs,(Lit.int k n).wf=true
theorem isRow_ints {k:IntKind}{w:World}{a:Option Addr}{len cap:Nat}{zs:List Int}(h:IsRow k w a len cap zs):
  Ints k w a (zs.take len)∧(zs.take len).length=len∧len≤9223372036854775807∧(∀n∈zs.take len,(Lit.int k n).wf=true):=by
 rcases h with⟨rfl,rfl,rfl,rfl⟩ | ⟨x,rfl,hl,hm,hz,hcell,hwz⟩
 ·exact⟨Ints.nil _ _ _,rfl,by omega,fun n hn=>by simp at hn⟩
 ·have hlen:(zs.take len).length=len:=by rw[List.length_take];omega
  refine⟨?_,hlen,by unfold maxLen at hm;omega,fun n hn=>hwz n (List.mem_of_mem_take hn)⟩;intro i hi;rw[hlen]at hi;have hc:=hcell i (by omega);have h0:=hcell 0 (by omega);obtain⟨b,off,spot⟩:=x
  have hspot:spot=none:=by simpa [Addr.add]using World.cell?_spot h0
  subst hspot;refine⟨b,off,rfl,?_⟩;simp only[Addr.add_lit]at hc;rw[hc];simp[List.getD_eq_getElem?_getD,show i<zs.length by omega]
end Go.Proofs.Ytabbabkmojaoaaa

namespace Go.Proofs.Ytabbabkmojaoaaa
open Go.RowKit
def kEz (w:World) (a:Option Addr) (xs:List Value):Prop:=
 ∀i (h:i<xs.length),∃b o,a=some ⟨b,o,none⟩∧w.cell? ⟨b,o+i,none⟩=some xs[i]
theorem kHa (k:IntKind)(zs:List Int):∀u∈ivs k zs,u.oneCell'=true:=by
 intro u hu;obtain⟨_,_,rfl⟩:=List.mem_map.1 hu
 rfl
theorem kNn {P:Program}{t e:TypeId}{z:Value}{bytes:Nat}(el:kLo P t e z bytes){w:World}{o:Oper}{act:Act}{K:Act→World→Prop}{Q:Exit→Act→World→Prop}(s x:Operand)
  (ho:o.op= .call {callee:= .builtin .append,args:= #[s,x],argTypes:= #[t,t]}){B:Nat}{a:Option Addr}{n cap:Nat}{xs:List Value}(hown:Own B e w a n cap xs)(hB:B≤w.heap.size)
  {a2:Option Addr}{m c:Nat}{ys:List Value}(hys:ys.length=m)(hsrc:kEz w a2 ys)(hnone:a2=none→c=0)(hone:∀u∈ys,u.oneCell'=true)(hn:(n+m)*bytes≤140737488355328)(hm:n+m≤maxLen)
  (hs:act.eval s= .slice a n cap)(hx:act.eval x= .slice a2 m c)
  (h:∀a' cap' w',Own B e w' a' (n+m) cap' (xs++ys)→w.grownBy w' (Value.slice a n cap).ownBlock→kBk w (.slice a n cap) (.slice a' (n+m) cap')→K (act.put o.dst (.slice a' (n+m) cap')) w'):
  o.wp P act w K Q:=by
 obtain⟨i,hi,hz,h1,hb⟩:=info_parts el.inf
 cases a2 with
 | none=>
  have hy0:ys=[]:=by
   cases ys with
   | nil=>rfl
   | cons y t=>obtain⟨b,o,hbad,_⟩:=hsrc 0 (by simp);simp at hbad
  subst hy0
  have hm0:m=0:=by simpa using hys.symm
  subst hm0;have hc:=hnone rfl;subst hc;have hr:=run_append_owned_none (P:=P) w B t o.type e i 1 el.und hi _ n xs hown;unfold Oper.wp execOp;simp only[ho,resolve,invoke,builtin,Sem.run_bind,Sem.run_pure,Result.andThen_ok,List.map_toArray,List.map_cons,List.map_nil,hs,hx,hr];exact(h a cap w (by simpa using hown) ⟨rfl,rfl,rfl,Nat.le_refl _,fun _ _ _=>rfl⟩ (.inl rfl))
 | some ad=>
  have hcell:∀j v,ys[j]? =some v→w.cell? (ad.add j)=some v:=by
   intro j v hv;obtain⟨hj,hv2⟩:=List.getElem?_eq_some_iff.1 hv;obtain⟨b,o,h3,h4⟩:=hsrc j hj;obtain rfl:=Option.some.inj h3;rw[Addr.add_lit,h4,hv2]
  obtain⟨v',w',hr,h2,h3,h4⟩:=kGp (P:=P) w B t o.type e i z 1 bytes el.und hi hz h1 hb el.one (by decide) _ n xs hown ad m c ys (by simpa using hys) hcell hone hm hn hB;unfold Oper.wp execOp;simp only[ho,resolve,invoke,builtin,Sem.run_bind,Sem.run_pure,Result.andThen_ok,List.map_toArray,List.map_cons,List.map_nil,hs,hx,hr]
  have hv':∃a' cap',v'= .slice a' (n+m) cap':=by
   rcases h2.2 with⟨rfl,h0⟩ | ⟨g,cap',cur,rfl,_⟩
   ·exact⟨none,0,by rw[h0]⟩
   ·exact⟨_,_,rfl⟩
  obtain⟨a',cap',rfl⟩:=hv';exact h a' cap' w' h2 h3 h4
theorem kK0 {P:Program}{t e:TypeId}{z:Value}{bytes:Nat}(el:kLo P t e z bytes){w:World}{ops:Array Oper}{rest:List Oper}{o:Oper}{act:Act}{Q:Exit→Act→World→Prop}(hgd:o.guard=none)(s x:Operand)
  (ho:o.op= .call {callee:= .builtin .append,args:= #[s,x],argTypes:= #[t,t]}){B:Nat}{a:Option Addr}{n cap:Nat}{xs:List Value}(hown:Own B e w a n cap xs)(hB:B≤w.heap.size)
  {a2:Option Addr}{m c:Nat}{ys:List Value}(hys:ys.length=m)(hsrc:kEz w a2 ys)(hnone:a2=none→c=0)(hone:∀u∈ys,u.oneCell'=true)(hn:(n+m)*bytes≤140737488355328)(hm:n+m≤maxLen)
  (hs:act.eval s= .slice a n cap)(hx:act.eval x= .slice a2 m c)
  (h:∀a' cap' w',Own B e w' a' (n+m) cap' (xs++ys)→w.grownBy w' (Value.slice a n cap).ownBlock→kBk w (.slice a n cap) (.slice a' (n+m) cap')→wpList P ops Q rest (act.put o.dst (.slice a' (n+m) cap')) w'):
  wpList P ops Q (o :: rest) act w:=
 wpList_plain hgd fun _ hK=>kNn el s x ho hown hB hys hsrc hnone hone hn hm hs hx fun a' cap' w' h2 h3 h4=>hK _ _ (h a' cap' w' h2 h3 h4)
end Go.Proofs.Ytabbabkmojaoaaa

namespace Go.Proofs.Ytabbabkmojaoaaa
open Go.RowKit
def kBr (l:List Nat):List Int:=l.map (fun(j:Nat)=>(j:Int))
theorem kBp (l:List Nat):(kBr l).length=l.length:=by simp[kBr]
theorem kLk (l:List Nat)(x:Nat):kBr (l++[x])=kBr l++[(x:Int)]:=by simp[kBr]
end Go.Proofs.Ytabbabkmojaoaaa

namespace Go.Proofs.Ytabbabkmojaoaaa
open Go.RowKit
structure kEs (P:Program) (t e:TypeId) (z:Value) (size bytes:Nat):Prop where
 und:P.underlying t=some (.slice e)
 inf:(P.info? e).map (fun i=>(i.zero,i.size,i.bytes))=some (some z,size,bytes)
 sz:z.cells.size=size
 pos:0<size
section
variable {B : Nat} {E : TypeId} {w : World} {a : Option Addr} {n cap : Nat} {ps : List (Nat × Nat)}
end
end Go.Proofs.Ytabbabkmojaoaaa

namespace Go.Proofs.Ytabbabkmojaoaaa
open Go.RowKit
theorem kC3 (b:Nat):∀(vs:List Value) (o:Nat) (w:World),w.grownBy (w.setCells b o vs) (some b)
 | [],o,w=>⟨rfl,rfl,rfl,Nat.le_refl _,fun _ _ _=>rfl⟩
 | v :: r,o,w=>by
  have h1:=kAe w b o v;have h2:=kC3 b r (o+1) (w.setCell ⟨b,o,none⟩ v);rw[World.setCells];refine⟨h2.os.trans h1.os,h2.tape.trans h1.tape,h2.output.trans h1.output,Nat.le_trans h1.size h2.size,fun k hk hne=> ?_⟩;rw[h2.block k (Nat.lt_of_lt_of_le hk h1.size) hne,h1.block k hk hne]
end Go.Proofs.Ytabbabkmojaoaaa

namespace Go.Proofs.Ytabbabkmojaoaaa
open Go.RowKit
structure kG6 (P:Program) (t E:TypeId) (n sz:Nat) {α:Type} (val:α→Value) (eqB:α→α→Bool):Prop where
 und:P.underlying t=some (.array n E)
 inf:∃i,P.info? E=some i
 cel:P.cellsOf E=sz
 wide:∀a,(val a).cells.toList.length=sz
 part:∀(w:World) (xs:Array Value) (off:Nat) (a:α),(xs.toList.drop off).take sz=(val a).cells.toList→(part E xs off).run P w= .ok (val a) w
 eqE:∀(w:World) (d:Nat) (a b:α),(Op.equalIn (d+3) E (val a) (val b)).run P w= .ok (eqB a b) w
 chk:∀(w:World) (em:Bool) (d:Nat) (a:α),(Instr.checkKey em (d+3) E (val a)).run P w= .ok () w
section
variable {α : Type}
def kAf (val:α→Value) (l:List α):List Value:=l.flatMap (fun a=>(val a).cells.toList)
def kEn (val:α→Value) (l:List α):Value:= .agg (kAf val l).toArray
def eqL (eqB:α→α→Bool):List α→List α→Bool
 | a :: l,b :: m=>eqB a b&&eqL eqB l m
 | _,_=>true
variable {P : Program} {t E : TypeId} {n sz : Nat} {val : α → Value} {eqB : α → α → Bool}
theorem kAh (hw:∀a,(val a).cells.toList.length=sz)(l:List α):(kAf val l).length=l.length*sz:=by
 induction l with
 | nil=>simp[kAf]
 | cons a l ih=>
  rw[kAf,List.flatMap_cons,List.length_append,hw,List.length_cons,Nat.add_mul,Nat.one_mul];rw[kAf]at ih;omega
theorem kLw (hw:∀a,(val a).cells.toList.length=sz)(l:List α)(k:Nat):(kAf val l).drop (k*sz)=kAf val (l.drop k):=by
 induction k generalizing l with
 | zero=>simp
 | succ k ih=>
  cases l with
  | nil=>simp[kAf]
  | cons a l=>
   rw[List.drop_succ_cons,←ih l,kAf,List.flatMap_cons,←kAf,Nat.add_mul,Nat.one_mul,Nat.add_comm,←List.drop_drop]
   congr 1
   rw[←hw a,List.drop_left]
theorem kIk (hw:∀a,(val a).cells.toList.length=sz)(l:List α)(k:Nat)(hk:k<l.length):((kAf val l).drop (k*sz)).take sz=(val l[k]).cells.toList:=by
 rw[kLw hw,List.drop_eq_getElem_cons hk,kAf,List.flatMap_cons,←hw l[k],List.take_left]
theorem kG6.equal_items (K:kG6 P t E n sz val eqB)(w:World)(d:Nat)(l m:List α)(hl:l.length=n)(hm:m.length=n):∀(j k:Nat),k+j=n→
  (Op.eqItems (d+3) E (P.cellsOf E) (kAf val l).toArray (kAf val m).toArray (List.range' k j)).run P w= .ok (eqL eqB (l.drop k) (m.drop k)) w:=by
 intro j
 induction j with
 | zero=>
  intro k hk;rw[List.drop_eq_nil_of_le (by omega)];simp[Op.eqItems,eqL]
 | succ j ih=>
  intro k hk
  have hk1:k<l.length:=by omega
  have hk2:k<m.length:=by omega
  rw[List.range'_succ,Op.eqItems,K.cel,List.drop_eq_getElem_cons hk1,List.drop_eq_getElem_cons hk2];have p1:=K.part w (kAf val l).toArray (k*sz) l[k] (by rw[←kIk K.wide l k hk1]);have p2:=K.part w (kAf val m).toArray (k*sz) m[k] (by rw[←kIk K.wide m k hk2]);have p3:=K.eqE w d l[k] m[k];have p4:=ih (k+1) (by omega);rw[K.cel]at p4;simp only[Sem.run_bind,p1,p2,p3,Result.andThen_ok,eqL]
  cases h:eqB l[k] m[k]
  ·simp
  ·simpa using p4
theorem kG6.equal (K:kG6 P t E n sz val eqB)(w:World)(l m:List α)(hl:l.length=n)(hm:m.length=n):(Op.equal t (kEn val l) (kEn val m)).run P w= .ok (eqL eqB l m) w:=by
 obtain⟨i,hi⟩:=K.inf;have:=K.equal_items w 9996 l m hl hm n 0 (by omega);rw[←List.range_eq_range']at this;rw[Op.equal,Op.maxDepth,show(10000:Nat)=(9996+3)+1 from rfl,kEn,kEn,run_equalIn_array w (9996+3) _ _ K.und hi]
 simpa using this
theorem kG6.check (K:kG6 P t E n sz val eqB)(w:World)(em:Bool)(l:List α)(hl:l.length=n):(Instr.checkKey em 10000 t (kEn val l)).run P w= .ok () w:=by
 obtain⟨i,hi⟩:=K.inf;rw[show(10000:Nat)=(9996+3)+1 from rfl,kEn,Instr.checkKey];simp only[Sem.run_bind,run_underlying K.und,Result.andThen_ok];simp only[Std.Legacy.Range.forIn_eq_forIn_range',Std.Legacy.Range.size,Nat.sub_zero,Nat.add_one_sub_one,Nat.div_one]
 have each:∀j∈List.range' 0 n,j<l.length:=fun j hj=>by rw[List.mem_range']at hj;omega
 generalize List.range' 0 n=is at each
 induction is with
 | nil=>simp
 | cons j is ih=>
  have hj:=each j (by simp);have p1:=K.part w (kAf val l).toArray (j*sz) l[j] (by rw[←kIk K.wide l j hj]);have p2:=K.chk w em 9996 l[j];simp only[List.forIn_cons,Sem.run_bind,run_sizeOf w hi,Result.andThen_ok,K.cel,p1,p2,Sem.run_pure];exact ih (fun y hy=>each y (by simp[hy]))
def kDi (val:α→Value):Nat→List (List α)→List MapEntry
 | _,[]=>[]
 | i,l :: L=>{key:=kEn val l,val:= .int .u16 (i:Nat),born:=i} :: kDi val (i+1) L
def kIq (val:α→Value) (L:List (List α)):Array MapEntry:=(kDi val 0 L).toArray
def kAo (eqB:α→α→Bool) (l:List α) (L:List (List α)):Option Nat:=L.findIdx? (eqL eqB l)
theorem kIp (val:α→Value)(L:List (List α))(l:List α):∀i,kDi val i (L++[l])=kDi val i L++[{key:=kEn val l,val:= .int .u16 ((i+L.length:Nat):Int),born:=i+L.length}]:=by
 induction L with
 | nil=>intro i;rfl
 | cons x L ih=>
  intro i;rw[List.cons_append,kDi,ih,kDi,List.length_cons,List.cons_append,show i+1+L.length=i+(L.length+1) by omega]
theorem kLg (val:α→Value)(L:List (List α))(l:List α):kIq val (L++[l])=(kIq val L).push {key:=kEn val l,val:= .int .u16 (L.length:Nat),born:=L.length}:=by
 simp[kIq,kIp]
theorem kG6.find_asking (K:kG6 P t E n sz val eqB)(w:World)(l:List α)(hl:l.length=n):∀(L:List (List α)) (i:Nat) (j:Nat),(∀m∈L,m.length=n)→
  (Instr.findAsking t (kEn val l) (kDi val i L) j).run P w= .ok ((kAo eqB l L).map (fun k=>(j+k,.int .u16 ((i+k:Nat):Int)))) w:=by
 intro L
 induction L with
 | nil=>intro i j _;simp[kDi,Instr.findAsking,kAo]
 | cons m L ih=>
  intro i j hL;have h1:=K.equal w l m hl (hL m (by simp));have h2:=ih (i+1) (j+1) (fun m hm=>hL m (by simp[hm]));rw[kDi,Instr.findAsking];simp only[Sem.run_bind,h1,Result.andThen_ok,kAo,List.findIdx?_cons]
  cases h:eqL eqB l m
  ·simp only[Bool.false_eq_true,if_false,h2,kAo]
   congr 1
   rw[Option.map_map]
   congr 1
   funext k
   simp only[Function.comp];rw[show j+1+k=j+(k+1) by omega,show i+1+k=i+(k+1) by omega]
  ·simp
theorem kHi (n:Nat)(E:TypeId)(k:Value)(e:MapEntry)(es:List MapEntry)(i:Nat):Instr.findNow (.array n E) k (e :: es) i=none:=by
 simp only[Instr.findNow,Instr.sameNow]
theorem kG6.find_key (K:kG6 P t E n sz val eqB)(w:World)(l:List α)(hl:l.length=n)(L:List (List α))(hL:∀m∈L,m.length=n):
  (Instr.findKey t (kEn val l) (kIq val L).toList).run P w= .ok ((kAo eqB l L).map (fun k=>(k,.int .u16 (k:Int)))) w:=by
 have h:=K.find_asking w l hl L 0 0 hL;simp only[Nat.zero_add]at h;rw[Instr.findKey];simp only[Sem.run_bind,run_underlying K.und,Result.andThen_ok,kIq]
 cases L with
 | nil=>simp[kDi,Instr.findNow,kAo]
 | cons m L=>
  rw[show kDi val 0 (m :: L)={key:=kEn val m,val:= .int .u16 ((0:Nat):Int),born:=0} :: kDi val 1 L from rfl,kHi];exact h
def kK1 (val:α→Value) (w:World) (b:Nat) (L:List (List α)):Prop:=w.heap[b]? =some (.map (kIq val L) L.length)
def kG8 (w:World) (b:Nat) (o:Obj):World:={w with heap:=w.heap.setIfInBounds b o}
def kL5 (o:Option Nat):Value:=match o with
 | some k=> .tuple #[.int .u16 (k:Nat),.bool true]
 | none=> .tuple #[.int .u16 0,.bool false]
theorem kG6.lookup (K:kG6 P t E n sz val eqB){tm te:TypeId}(hm:P.underlying tm=some (.map t te))(hz:∀w,(zeroValue te).run P w= .ok (.int .u16 0) w){w:World}{b:Nat}{L:List (List α)}(h:kK1 val w b L)(l:List α)(hl:l.length=n)(hL:∀m∈L,m.length=n):
  (Instr.lookup tm (.map (some b)) (kEn val l) true).run P w= .ok (kL5 (kAo eqB l L)) w:=by
 rw[Instr.lookup];simp only[Sem.run_bind,run_underlying hm,Result.andThen_ok,MapKept.run_getObj_map h,Sem.run_pure,K.check w _ l hl,K.find_key w l hl L hL]
 cases kAo eqB l L<;>simp[kL5,hz]
theorem kG6.store (K:kG6 P t E n sz val eqB){tm te:TypeId}(hm:P.underlying tm=some (.map t te)){w:World}{b:Nat}{L:List (List α)}(h:kK1 val w b L)(l:List α)(hl:l.length=n)(hL:∀m∈L,m.length=n)(hn:kAo eqB l L=none):
  (Instr.mapUpdate tm (.map (some b)) (kEn val l) (.int .u16 (L.length:Nat))).run P w= .ok () (kG8 w b (.map (kIq val (L++[l])) (L++[l]).length)):=by
 rw[Instr.mapUpdate];simp only[Sem.run_bind,run_underlying hm,Result.andThen_ok,MapKept.run_getObj_map h,K.check w _ l hl,K.find_key w l hl L hL,hn,Option.map_none,MapKept.run_setObj_map _ h];rw[kLg,List.length_append]
 rfl
end
end Go.Proofs.Ytabbabkmojaoaaa

namespace Go.Proofs.Ytabbabkmojaoaaa
open Go.RowKit
structure kAy (α:Type) where
 top:List Nat
 mid:List (List Nat)
 low:List (List α)
def kAb (k:Nat):Value:= .int .u16 (k:Nat)
def val8 (x:Int):Value:= .int .u8 x
section
variable {α : Type}
def kAg (val:α→Value) (n:Nat) (w:World) (a:Option Addr) (L:List (List α)):Prop:=
 ∀i,(h:i<L.length)→∃b o,a=some ⟨b,o,none⟩∧w.rangeAt b (o+i*n) (kAf val L[i])
theorem kAg.get {val:α→Value}{n:Nat}{w:World}{b o:Nat}{L:List (List α)}(h:kAg val n w (some ⟨b,o,none⟩) L)(i:Nat)(hi:i<L.length):w.rangeAt b (o+i*n) (kAf val L[i]):=by
 obtain⟨b',o',e,hc⟩:=h i hi;simp only[Option.some.injEq,Addr.mk.injEq,and_true]at e;obtain⟨rfl,rfl⟩:=e;exact hc
theorem kAg.some {val:α→Value}{n:Nat}{w:World}{a:Option Addr}{L:List (List α)}(h:kAg val n w a L)(hn:0<L.length):∃b o,a=Option.some ⟨b,o,none⟩:=by
 obtain⟨b,o,e,_⟩:=h 0 hn;exact⟨b,o,e⟩
theorem kAs {w w':World}{B b o:Nat}{cs:List Value}(h:w.rangeAt b o cs)(hb:Below B w w')(hB:w.heap.size≤B):w'.rangeAt b o cs:=fun j v hv=>by
 have h1:=h j v hv;rw[hb.cell (p:=⟨b,o+j,none⟩) (Nat.lt_of_lt_of_le (World.block_lt_of_cell? w _ h1) hB)];exact h1
theorem kAg.below {val:α→Value}{n:Nat}{w w':World}{B:Nat}{a:Option Addr}{L:List (List α)}(h:kAg val n w a L)(hb:Below B w w')(hB:w.heap.size≤B):kAg val n w' a L:=fun i hi=>by
 obtain⟨b,o,e,hr⟩:=h i hi;exact⟨b,o,e,kAs hr hb hB⟩
theorem kCe {val:α→Value}(h1:∀a,(val a).cells.toList=[val a])(l:List α)(j:Nat)(hj:j<l.length):(kAf val l)[j]? =some (val l[j]):=by
 induction l generalizing j with
 | nil=>simp at hj
 | cons a l ih=>
  rw[kAf,List.flatMap_cons,←kAf,h1]
  cases j with
  | zero=>simp
  | succ j=>simpa using ih j (by simpa using hj)
theorem kAg.cell {val:α→Value}(h1:∀a,(val a).cells.toList=[val a]){n:Nat}{w:World}{b o:Nat}{L:List (List α)}(h:kAg val n w (Option.some ⟨b,o,none⟩) L)(i:Nat)(hi:i<L.length)(j:Nat)(hj:j<L[i].length):
  w.cell? ⟨b,o+i*n+j,none⟩=Option.some (val L[i][j]):=h.get i hi j _ (kCe h1 _ j hj)
def kD7 (T:kAy α) (am:Option Addr) (cm:Nat) (al:Option Addr) (cl:Nat):List Value:=T.top.map kAb++[Value.slice am T.mid.length cm,Value.slice al T.low.length cl]
def kAj (val:α→Value) (ty:TypeId) (n:Nat) (w:World) (g:Nat) (T:kAy α):Prop:=
 ∃am cm al cl,w.heap[g]? =some (.cells (kD7 T am cm al cl).toArray ty (0,0))∧kAg kAb 64 w am T.mid∧kAg val n w al T.low
structure kA5 (T:kAy α):Prop where
 top:T.top.length=272
 mid:∀m∈T.mid,m.length=64
 low:∀l∈T.low,l.length=64
 topN:∀k∈T.top,k<T.mid.length
 midN:∀m∈T.mid,∀k∈m,k<T.low.length
 midL:T.mid.length≤272
 lowL:T.low.length≤17408
theorem kAj.below {val:α→Value}{ty:TypeId}{n:Nat}{w w':World}{B g:Nat}{T:kAy α}(h:kAj val ty n w g T)(hb:Below B w w')(hB:w.heap.size≤B):kAj val ty n w' g T:=by
 obtain⟨am,cm,al,cl,h1,h2,h3⟩:=h;exact⟨am,cm,al,cl,by rw[hb.block g (by have:=(jL h1);omega)];exact h1,h2.below hb hB,h3.below hb hB⟩
theorem kAj.cell_mid {val:α→Value}{ty:TypeId}{w:World}{g:Nat}{T:kAy α}{am:Option Addr}{cm:Nat}{al:Option Addr}{cl:Nat}(hk:kA5 T)(h:w.heap[g]? =some (.cells (kD7 T am cm al cl).toArray ty (0,0))):
  w.cell? ⟨g,272,none⟩=some (.slice am T.mid.length cm):=by
 rw[jK w g 272 _ _ (0,0) h];simp[kD7,hk.top]
theorem kAj.cell_low {val:α→Value}{ty:TypeId}{w:World}{g:Nat}{T:kAy α}{am:Option Addr}{cm:Nat}{al:Option Addr}{cl:Nat}(hk:kA5 T)(h:w.heap[g]? =some (.cells (kD7 T am cm al cl).toArray ty (0,0))):
  w.cell? ⟨g,273,none⟩=some (.slice al T.low.length cl):=by
 rw[jK w g 273 _ _ (0,0) h];simp[kD7,hk.top]
theorem kAj.cell_top {val:α→Value}{ty:TypeId}{w:World}{g:Nat}{T:kAy α}{am:Option Addr}{cm:Nat}{al:Option Addr}{cl:Nat}(hk:kA5 T)(h:w.heap[g]? =some (.cells (kD7 T am cm al cl).toArray ty (0,0)))(j:Nat)(hj:j<272):
  w.cell? ⟨g,j,none⟩=some (kAb (T.top.getD j 0)):=by
 have hjl:j<T.top.length:=by rw[hk.top];exact hj
 rw[jK w g j _ _ (0,0) h];simp[kD7,hjl,List.getElem?_append]
def kAl (d:α) (T:kAy α) (r:Nat):α:=((T.low.getD ((T.mid.getD (T.top.getD (r / 4096) 0) []).getD (r / 64 % 64) 0) []).getD (r % 64) d)
def kDe (r:Int):Nat:=if r<0∨1114111<r then 65533 else r.toNat
theorem kFk (r:Int):kDe r≤1114111:=by unfold kDe;split<;>omega
end
theorem kA0 (k:Nat):(kAb k).cells.toList=[kAb k]:=rfl
theorem kBt (k:Int):(val8 k).cells.toList=[val8 k]:=rfl
end Go.Proofs.Ytabbabkmojaoaaa

namespace Go.Proofs.Ytabbabkmojaoaaa
open Go.RowKit
structure MkS (α:Type) where
 top:List Nat
 cur:List Nat
 lows:List (List α)
 mids:List (List Nat)
 blocks:Nat
section
variable {α : Type}
def mkC (g:Nat) (S:MkS α):List Value:=[.pointer (some ⟨g,0,none⟩),.map (some (g+1)),.map (some (g+2)),.int .i64 (S.blocks:Nat)]++S.cur.map kAb
def trC (S:MkS α) (am:Option Addr) (cm:Nat) (al:Option Addr) (cl:Nat):List Value:=S.top.map kAb++[Value.slice am S.mids.length cm,Value.slice al S.lows.length cl]
structure MkW (S:MkS α):Prop where
 top:S.top.length=272
 cur:S.cur.length=64
 low:∀l∈S.lows,l.length=64
 mid:∀l∈S.mids,l.length=64
structure kBz (val:α→Value) (sz:Nat) (tM tT tA tV:TypeId) (w:World) (g:Nat) (S:MkS α) (ml:List (List α)) (mm:List (List Nat)) (am:Option Addr) (cm:Nat) (al:Option Addr) (cl:Nat):Prop where
 mk_:w.heap[g+3]? =some (.cells (mkC g S).toArray tM (0,0))
 tr:w.heap[g]? =some (.cells (trC S am cm al cl).toArray tT (0,0))
 rm:w.ownsRow (g+4) tA 64 (.slice am S.mids.length cm) S.mids.length (S.mids.flatMap (kAf kAb))
 rl:w.ownsRow (g+4) tV (64*sz) (.slice al S.lows.length cl) S.lows.length (S.lows.flatMap (kAf val))
 ap:∀k,(Value.slice am S.mids.length cm).ownBlock=some k→(Value.slice al S.lows.length cl).ownBlock≠some k
 lm:kK1 val w (g+1) ml
 mm_:kK1 kAb w (g+2) mm
variable {val : α → Value} {sz : Nat} {tM tT tA tV : TypeId} {w w' : World} {g : Nat} {S : MkS α} {ml : List (List α)} {mm : List (List Nat)} {am : Option Addr} {cm : Nat} {al : Option Addr} {cl : Nat}
theorem kBz.lt (h:kBz val sz tM tT tA tV w g S ml mm am cm al cl):g+4≤w.heap.size:=(jL h.mk_)
theorem kBz.below (h:kBz val sz tM tT tA tV w g S ml mm am cm al cl)(hb:Below w.heap.size w w'):kBz val sz tM tT tA tV w' g S ml mm am cm al cl:=by
 have hl:=h.lt;have k:∀b,b<w.heap.size→w'.heap[b]? =w.heap[b]? :=hb.block
 have r:∀ {E:TypeId} {s:Nat} {v:Value} {n:Nat} {xs:List Value},w.ownsRow (g+4) E s v n xs→w'.ownsRow (g+4) E s v n xs:=fun h=>
  h.kept (row:=none) ⟨hb.os,hb.tape,hb.output,hb.size,fun j hj _=>hb.block j hj⟩ (by rename_i v _ _;cases hv:v.ownBlock<;>simp)
 exact⟨(k _ (by omega)).trans h.mk_,(k _ (by omega)).trans h.tr,r h.rm,r h.rl,h.ap,(k _ (by omega)).trans h.lm,(k _ (by omega)).trans h.mm_⟩
theorem kBz.drew (h:kBz val sz tM tT tA tV w g S ml mm am cm al cl):kBz val sz tM tT tA tV w.drew g S ml mm am cm al cl:=⟨h.mk_,h.tr,h.rm,h.rl,h.ap,h.lm,h.mm_⟩
theorem kBz.c_t (h:kBz val sz tM tT tA tV w g S ml mm am cm al cl):w.cell? ⟨g+3,0,none⟩=some (.pointer (some ⟨g,0,none⟩)):=by rw[jK w (g+3) 0 _ _ (0,0) h.mk_];simp[mkC]
theorem kBz.c_lm (h:kBz val sz tM tT tA tV w g S ml mm am cm al cl):w.cell? ⟨g+3,1,none⟩=some (.map (some (g+1))):=by rw[jK w (g+3) 1 _ _ (0,0) h.mk_];simp[mkC]
theorem kBz.c_mm (h:kBz val sz tM tT tA tV w g S ml mm am cm al cl):w.cell? ⟨g+3,2,none⟩=some (.map (some (g+2))):=by rw[jK w (g+3) 2 _ _ (0,0) h.mk_];simp[mkC]
theorem kBz.c_b (h:kBz val sz tM tT tA tV w g S ml mm am cm al cl):w.cell? ⟨g+3,3,none⟩=some (.int .i64 (S.blocks:Nat)):=by rw[jK w (g+3) 3 _ _ (0,0) h.mk_];simp[mkC]
theorem kBz.c_cur (h:kBz val sz tM tT tA tV w g S ml mm am cm al cl)(j:Nat)(hj:j<S.cur.length):w.cell? ⟨g+3,4+j,none⟩=some (kAb S.cur[j]):=by
 rw[jK w (g+3) (4+j) _ _ (0,0) h.mk_];simp only[mkC,List.getElem?_toArray];rw[List.getElem?_append_right (by simp)];simp[show 4+j - 4=j by omega,hj]
theorem kBz.f_mk (h:kBz val sz tM tT tA tV w g S ml mm am cm al cl)(o:Nat):w.frozen? ⟨g+3,o,none⟩=false:=jO w (g+3) o _ _ h.mk_
theorem kBz.f_tr (h:kBz val sz tM tT tA tV w g S ml mm am cm al cl)(o:Nat):w.frozen? ⟨g,o,none⟩=false:=jO w g o _ _ h.tr
theorem kBz.r_cur (h:kBz val sz tM tT tA tV w g S ml mm am cm al cl):w.rangeAt (g+3) 4 (kAf kAb S.cur):=by
 intro j v hv
 have hb:kAf kAb S.cur=S.cur.map kAb:=by
  unfold kAf
  induction S.cur with
  | nil=>rfl
  | cons a l ih=>rw[List.flatMap_cons,ih,List.map_cons];rfl
 rw[hb,List.getElem?_map]at hv
 cases hc:S.cur[j]? with
 | none=>rw[hc]at hv;cases hv
 | some x=>
  rw[hc]at hv;obtain⟨hj,rfl⟩:=List.getElem?_eq_some_iff.1 hc;rw[h.c_cur j hj]
  simpa using hv
theorem kBz.c_mid (h:kBz val sz tM tT tA tV w g S ml mm am cm al cl)(hw:MkW S):w.cell? ⟨g,272,none⟩=some (.slice am S.mids.length cm):=by
 rw[jK w g 272 _ _ (0,0) h.tr];simp[trC,hw.top]
theorem kBz.c_low (h:kBz val sz tM tT tA tV w g S ml mm am cm al cl)(hw:MkW S):w.cell? ⟨g,273,none⟩=some (.slice al S.lows.length cl):=by
 rw[jK w g 273 _ _ (0,0) h.tr];simp[trC,hw.top]
theorem kBz.c_top (h:kBz val sz tM tT tA tV w g S ml mm am cm al cl)(hw:MkW S)(j:Nat)(hj:j<272):∃v,w.cell? ⟨g,j,none⟩=some v:=by
 rw[jK w g j _ _ (0,0) h.tr];refine⟨(trC S am cm al cl)[j]'(by simp[trC,hw.top];omega),?_⟩;simp[trC,hw.top]
theorem kAr {row:Option Nat}(hg:w.grownBy w' row){b:Nat}(hb:b<w.heap.size)(hr:∀k,row=some k→b≠k):w'.heap[b]? =w.heap[b]? :=
 hg.block b hb (fun e=>hr b e.symm rfl)
theorem kBz.push_low (h:kBz val sz tM tT tA tV w g S ml mm am cm al cl)(hw:MkW S)(l:List α){al':Option Addr}{cl':Nat}(ho:w'.ownsRow (g+4) tV (64*sz) (.slice al' (S.lows.length+1) cl') (S.lows.length+1) (S.lows.flatMap (kAf val)++kAf val l))
  (hg:w.grownBy w' (Value.slice al S.lows.length cl).ownBlock)(hn:kBk w (.slice al S.lows.length cl) (.slice al' (S.lows.length+1) cl')):
  kBz val sz tM tT tA tV (w'.setCell ⟨g,273,none⟩ (.slice al' (S.lows.length+1) cl')) g {S with lows:=S.lows++[l]} ml mm am cm al' cl':=by
 have hl:=h.lt;have hk:=World.ownsRow.lt h.rl;have hkm:=World.ownsRow.lt h.rm
 have oth:∀b,b<g+4→w'.heap[b]? =w.heap[b]? :=fun b hb=>kAr hg (by omega) (fun k e=>by have:=(hk k e).1;omega)
 have htr:=(oth g (by omega)).trans h.tr
 have hrm:w'.ownsRow (g+4) tA 64 (.slice am S.mids.length cm) S.mids.length (S.mids.flatMap (kAf kAb)):=h.rm.kept hg (by
  cases e:(Value.slice am S.mids.length cm).ownBlock with
  | none=>exact .inl rfl
  | some k=>exact .inr (fun e2=>h.ap k e e2.symm))
 refine⟨?_,?_,?_,?_,?_,?_,?_⟩
 ·rw[jQ w' ⟨g,273,none⟩ (g+3) _ (by simp)];exact(oth (g+3) (by omega)).trans h.mk_
 ·have:=jP w' g 273 _ _ (.slice al' (S.lows.length+1) cl') htr;rw[this];simp[trC,hw.top]
 ·exact hrm.kept (kAe w' g 273 _) (by
   cases e:(Value.slice am S.mids.length cm).ownBlock with
   | none=>exact .inl rfl
   | some k=>exact .inr (fun e2=>by cases e2;have:=(hkm _ e).1;omega))
 ·have:=ho.kept (kAe w' g 273 (.slice al' (S.lows.length+1) cl')) (by
   cases e:(Value.slice al' (S.lows.length+1) cl').ownBlock with
   | none=>exact .inl rfl
   | some k=>exact .inr (fun e2=>by cases e2;have:=(World.ownsRow.lt ho _ e).1;omega))
  simpa [List.flatMap_append]using this
 ·intro k e e2;simp only[List.length_append,List.length_singleton]at e2
  rcases hn with hn | ⟨gg,hn,hgg⟩
  ·rw[hn]at e2;exact h.ap k e e2
  ·rw[hn]at e2;cases e2;have:=(hkm _ e).2;omega
 ·show(w'.setCell ⟨g,273,none⟩ _).heap[g+1]? =_;rw[jQ w' ⟨g,273,none⟩ (g+1) _ (by simp)];exact(oth (g+1) (by omega)).trans h.lm
 ·show(w'.setCell ⟨g,273,none⟩ _).heap[g+2]? =_;rw[jQ w' ⟨g,273,none⟩ (g+2) _ (by simp)];exact(oth (g+2) (by omega)).trans h.mm_
theorem kBz.push_mid (h:kBz val sz tM tT tA tV w g S ml mm am cm al cl)(hw:MkW S)(l:List Nat){am':Option Addr}{cm':Nat}(ho:w'.ownsRow (g+4) tA 64 (.slice am' (S.mids.length+1) cm') (S.mids.length+1) (S.mids.flatMap (kAf kAb)++kAf kAb l))
  (hg:w.grownBy w' (Value.slice am S.mids.length cm).ownBlock)(hn:kBk w (.slice am S.mids.length cm) (.slice am' (S.mids.length+1) cm')):
  kBz val sz tM tT tA tV (w'.setCell ⟨g,272,none⟩ (.slice am' (S.mids.length+1) cm')) g {S with mids:=S.mids++[l]} ml mm am' cm' al cl:=by
 have hl:=h.lt;have hk:=World.ownsRow.lt h.rm;have hkl:=World.ownsRow.lt h.rl
 have oth:∀b,b<g+4→w'.heap[b]? =w.heap[b]? :=fun b hb=>kAr hg (by omega) (fun k e=>by have:=(hk k e).1;omega)
 have htr:=(oth g (by omega)).trans h.tr
 have hrl:w'.ownsRow (g+4) tV (64*sz) (.slice al S.lows.length cl) S.lows.length (S.lows.flatMap (kAf val)):=h.rl.kept hg (by
  cases e:(Value.slice al S.lows.length cl).ownBlock with
  | none=>exact .inl rfl
  | some k=>exact .inr (fun e2=>h.ap k e2.symm e))
 refine⟨?_,?_,?_,?_,?_,?_,?_⟩
 ·rw[jQ w' ⟨g,272,none⟩ (g+3) _ (by simp)];exact(oth (g+3) (by omega)).trans h.mk_
 ·have:=jP w' g 272 _ _ (.slice am' (S.mids.length+1) cm') htr;rw[this];simp[trC,hw.top]
 ·have:=ho.kept (kAe w' g 272 (.slice am' (S.mids.length+1) cm')) (by
   cases e:(Value.slice am' (S.mids.length+1) cm').ownBlock with
   | none=>exact .inl rfl
   | some k=>exact .inr (fun e2=>by cases e2;have:=(World.ownsRow.lt ho _ e).1;omega))
  simpa [List.flatMap_append]using this
 ·exact hrl.kept (kAe w' g 272 _) (by
   cases e:(Value.slice al S.lows.length cl).ownBlock with
   | none=>exact .inl rfl
   | some k=>exact .inr (fun e2=>by cases e2;have:=(hkl _ e).1;omega))
 ·intro k e e2;simp only[List.length_append,List.length_singleton]at e
  rcases hn with hn | ⟨gg,hn,hgg⟩
  ·rw[hn]at e;exact h.ap k e e2
  ·rw[hn]at e;cases e;have:=(hkl _ e2).2;omega
 ·show(w'.setCell ⟨g,272,none⟩ _).heap[g+1]? =_;rw[jQ w' ⟨g,272,none⟩ (g+1) _ (by simp)];exact(oth (g+1) (by omega)).trans h.lm
 ·show(w'.setCell ⟨g,272,none⟩ _).heap[g+2]? =_;rw[jQ w' ⟨g,272,none⟩ (g+2) _ (by simp)];exact(oth (g+2) (by omega)).trans h.mm_
theorem kC0 (w:World){b k:Nat}(o:Obj)(h:k≠b):(kG8 w b o).heap[k]? =w.heap[k]? :=by
 simp[kG8,Array.getElem?_setIfInBounds,Ne.symm h]
theorem kE7 (w:World){b:Nat}(o:Obj)(h:b<w.heap.size):(kG8 w b o).heap[b]? =some o:=by
 simp[kG8,Array.getElem?_setIfInBounds,h]
theorem kJk (w:World)(b:Nat)(o:Obj):w.grownBy (kG8 w b o) (some b):=
 ⟨rfl,rfl,rfl,by simp[kG8],fun k hk hne=>kC0 w o (fun e=>hne (by rw[e]))⟩
theorem kBz.put_lm (h:kBz val sz tM tT tA tV w g S ml mm am cm al cl)(L:List (List α)):kBz val sz tM tT tA tV (kG8 w (g+1) (.map (kIq val L) L.length)) g S L mm am cm al cl:=by
 have hl:=h.lt
 have r:∀ {E:TypeId} {s:Nat} {v:Value} {n:Nat} {xs:List Value},w.ownsRow (g+4) E s v n xs→(kG8 w (g+1) (.map (kIq val L) L.length)).ownsRow (g+4) E s v n xs:=fun {E s v n xs} h=>
  h.kept (kJk w (g+1) _) (by
   cases e:v.ownBlock with
   | none=>exact .inl rfl
   | some k=>exact .inr (fun e2=>by cases e2;have:=(World.ownsRow.lt h _ e).1;omega))
 exact⟨(kC0 w _ (by omega)).trans h.mk_,(kC0 w _ (by omega)).trans h.tr,r h.rm,r h.rl,h.ap,kE7 w _ (by omega),(kC0 w _ (by omega)).trans h.mm_⟩
theorem kBz.put_mm (h:kBz val sz tM tT tA tV w g S ml mm am cm al cl)(L:List (List Nat)):kBz val sz tM tT tA tV (kG8 w (g+2) (.map (kIq kAb L) L.length)) g S ml L am cm al cl:=by
 have hl:=h.lt
 have r:∀ {E:TypeId} {s:Nat} {v:Value} {n:Nat} {xs:List Value},w.ownsRow (g+4) E s v n xs→(kG8 w (g+2) (.map (kIq kAb L) L.length)).ownsRow (g+4) E s v n xs:=fun {E s v n xs} h=>
  h.kept (kJk w (g+2) _) (by
   cases e:v.ownBlock with
   | none=>exact .inl rfl
   | some k=>exact .inr (fun e2=>by cases e2;have:=(World.ownsRow.lt h _ e).1;omega))
 exact⟨(kC0 w _ (by omega)).trans h.mk_,(kC0 w _ (by omega)).trans h.tr,r h.rm,r h.rl,h.ap,(kC0 w _ (by omega)).trans h.lm,kE7 w _ (by omega)⟩
theorem kBz.store (h:kBz val sz tM tT tA tV w g S ml mm am cm al cl)(b o:Nat)(v:Value)(S':MkS α)(hb:b=g∨b=g+3)
  (h1:(w.setCell ⟨b,o,none⟩ v).heap[g+3]? =some (.cells (mkC g S').toArray tM (0,0)))(h2:(w.setCell ⟨b,o,none⟩ v).heap[g]? =some (.cells (trC S' am cm al cl).toArray tT (0,0)))(hm:S'.mids=S.mids)(hlo:S'.lows=S.lows):
  kBz val sz tM tT tA tV (w.setCell ⟨b,o,none⟩ v) g S' ml mm am cm al cl:=by
 have r:∀ {E:TypeId} {s:Nat} {u:Value} {n:Nat} {xs:List Value},w.ownsRow (g+4) E s u n xs→(w.setCell ⟨b,o,none⟩ v).ownsRow (g+4) E s u n xs:=fun {E s u n xs} h=>
  h.kept (kAe w b o v) (by
   cases e:u.ownBlock with
   | none=>exact .inl rfl
   | some k=>exact .inr (fun e2=>by cases e2;have:=(World.ownsRow.lt h _ e).1;omega))
 refine⟨h1,h2,by rw[hm];exact r h.rm,by rw[hlo];exact r h.rl,by rw[hm,hlo];exact h.ap,?_,?_⟩
 ·show(w.setCell ⟨b,o,none⟩ v).heap[g+1]? =_;rw[jQ w ⟨b,o,none⟩ (g+1) _ (by simp;omega)];exact h.lm
 ·show(w.setCell ⟨b,o,none⟩ v).heap[g+2]? =_;rw[jQ w ⟨b,o,none⟩ (g+2) _ (by simp;omega)];exact h.mm_
theorem kBz.set_cur (h:kBz val sz tM tT tA tV w g S ml mm am cm al cl)(j k:Nat):kBz val sz tM tT tA tV (w.setCell ⟨g+3,4+j,none⟩ (kAb k)) g {S with cur:=S.cur.set j k} ml mm am cm al cl:=by
 refine h.store (g+3) (4+j) _ _ (.inr rfl) ?_ ?_ rfl rfl
 ·rw[jP w (g+3) (4+j) _ _ (kAb k) h.mk_]
  have e:4+j=j+1+1+1+1:=by omega
  simp[mkC,e,List.map_set]
 ·rw[jQ w ⟨g+3,4+j,none⟩ g _ (by simp)];exact h.tr
theorem kBz.set_blocks (h:kBz val sz tM tT tA tV w g S ml mm am cm al cl)(k:Nat):kBz val sz tM tT tA tV (w.setCell ⟨g+3,3,none⟩ (.int .i64 (k:Nat))) g {S with blocks:=k} ml mm am cm al cl:=by
 refine h.store (g+3) 3 _ _ (.inr rfl) ?_ ?_ rfl rfl
 ·rw[jP w (g+3) 3 _ _ (.int .i64 (k:Nat)) h.mk_];simp[mkC]
 ·rw[jQ w ⟨g+3,3,none⟩ g _ (by simp)];exact h.tr
theorem kBz.set_top (h:kBz val sz tM tT tA tV w g S ml mm am cm al cl)(hw:MkW S)(j k:Nat)(hj:j<272):kBz val sz tM tT tA tV (w.setCell ⟨g,j,none⟩ (kAb k)) g {S with top:=S.top.set j k} ml mm am cm al cl:=by
 refine h.store g j _ _ (.inl rfl) ?_ ?_ rfl rfl
 ·rw[jQ w ⟨g,j,none⟩ (g+3) _ (by simp)];exact h.mk_
 ·rw[jP w g j _ _ (kAb k) h.tr];simp[trC,List.map_set,List.set_append,hw.top,hj]
def kBe {β:Type} (eqB:β→β→Bool) (L:List (List β)) (b:List β):List (List β)×Nat:=match kAo eqB b L with
 | some k=>(L,k)
 | none=>(L++[b],L.length)
def kD6 (eqB:α→α→Bool) (S:MkS α) (b:List α):MkS α:=
 let l:=kBe eqB S.lows b
 let cur:=S.cur.set (S.blocks % 64) l.2
 if(S.blocks+1) % 64=0 then
  let m:=kBe (fun x y:Nat=>decide (x=y)) S.mids cur
  {top:=S.top.set (S.blocks / 64) m.2,cur:=cur,lows:=l.1,mids:=m.1,blocks:=S.blocks+1}
 else {S with cur:=cur,lows:=l.1,blocks:=S.blocks+1}
end
end Go.Proofs.Ytabbabkmojaoaaa
