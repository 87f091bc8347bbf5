/- several texts in one: Base Base2 Base3 Base4 Base5 -/
import Derived.WalkKit
import Derived.WalkSpells
import Derived.WalkLawsBesides
import Derived.Lib.Hide
import Derived.Handy
import Derived.WalkSmall
import Derived.Deep.MidRow
set_option linter.unusedVariables false
set_option linter.unusedSimpArgs false
set_option maxRecDepth 100000
set_option maxHeartbeats 16000000
namespace Go.Proofs.YtbmphakfgoompaaGreat
open Go.RowKit
theorem jA{α:Type}{xs:List α}{i:Nat}(h:i<xs.toArray.size):xs.toArray[i]=xs[i]'(by simpa using h):=List.getElem_toArray h
theorem jB{α:Type}(a:α)(l:List α)(h:0<(a :: l).length):(a :: l)[0]=a:=rfl
theorem jC{α:Type}(a:α)(l:List α)(i:Nat)(h:i+1<(a :: l).length):(a :: l)[i+1]=l[i]'(Nat.lt_of_succ_lt_succ h):=rfl
theorem jD{α:Type}(l:List α)(i:Nat)(a:α):l.toArray.setIfInBounds i a=(l.set i a).toArray:=List.setIfInBounds_toArray l i a
theorem jE{α:Type}{x:α}{xs:List α}{a:α}:(x :: xs).set 0 a=a :: xs:=rfl
theorem jF{α:Type}{x:α}{xs:List α}{i:Nat}{a:α}:(x :: xs).set (i+1) a=x :: xs.set i a:=rfl
theorem jG{α:Type}{xs:List α}{i:Nat}:xs.toArray[i]? =xs[i]? :=List.getElem?_toArray
theorem jI{α:Type}{a:α}{l:List α}:(a :: l)[0]? =some a:=rfl
theorem jJ{α:Type}{a:α}{l:List α}{i:Nat}:(a :: l)[i+1]? =l[i]? :=rfl
theorem jL{w:World}{g:Nat}{o:Obj}(h:w.heap[g]? =some o):g<w.heap.size:=(Array.getElem?_eq_some_iff.1 h).1
theorem jH{p:Prop}(h:p):Hid p:=Lib.hid h
theorem jR{n:Nat}:n≤n:=Nat.le_refl n
abbrev jK:=@cell_of_row
abbrev jN:=@heap_alloc_new
abbrev jO:=@frozen_of_row
abbrev jP:=@heap_setCell_same
abbrev jQ:=@heap_setCell_other
abbrev jS:=@bodyPost_ret
def Ints (k:IntKind) (w:World) (a:Option Addr) (zs:List Int):Prop:=
 ∀i (h:i<zs.length),∃b o,a=some ⟨b,o,none⟩∧w.cell? ⟨b,o+i,none⟩=some (.int k zs[i])
def Own (B:Nat) (E:TypeId) (w:World) (a:Option Addr) (n cap:Nat) (xs:List Value):Prop:=
 w.ownsRow B E 1 (.slice a n cap) n xs
def ivs (k:IntKind) (zs:List Int):List Value:=zs.map (.int k)
theorem kCx (k:IntKind)(zs:List Int):(ivs k zs).length=zs.length:=by simp[ivs]
theorem kBi (k:IntKind)(a b:List Int):ivs k (a++b)=ivs k a++ivs k b:=by simp[ivs]
theorem kNl (k:IntKind)(a:List Int)(i:Nat)(x:Int):(ivs k a).set i (.int k x)=ivs k (a.set i x):=by simp[ivs,List.map_set]
theorem kK8 (k:IntKind)(n:Nat)(x:Int):List.replicate n (Value.int k x)=ivs k (List.replicate n x):=by simp[ivs]
theorem Ints.nil (k:IntKind)(w:World)(a:Option Addr):Ints k w a []:=fun i h=>absurd h (by simp)
theorem Ints.get {k:IntKind}{w:World}{b o:Nat}{zs:List Int}(h:Ints k w (some ⟨b,o,none⟩) zs)(i:Nat)(hi:i<zs.length):
  w.cell? ⟨b,o+i,none⟩=some (.int k zs[i]):=by
 obtain⟨b',o',e,hc⟩:=h i hi;simp only[Option.some.injEq,Addr.mk.injEq,and_true]at e;obtain⟨rfl,rfl⟩:=e;exact hc
theorem Ints.some {k:IntKind}{w:World}{a:Option Addr}{zs:List Int}(h:Ints k w a zs)(hn:0<zs.length):∃b o,a= .some ⟨b,o,none⟩:=by
 obtain⟨b,o,e,_⟩:=h 0 hn;exact⟨b,o,e⟩
theorem Ints.below {k:IntKind}{w w':World}{B:Nat}{a:Option Addr}{zs:List Int}(h:Ints k w a zs)(hb:Below B w w')(hB:w.heap.size≤B):Ints k w' a zs:=by
 intro i hi;obtain⟨b,o,rfl,hc⟩:=h i hi;have hl:=World.block_lt_of_cell? w _ hc;exact⟨b,o,rfl,by rw[hb.cell (p:=⟨b,o+i,none⟩) (by simp at hl ⊢;omega)];exact hc⟩
theorem Own.nil (B:Nat)(E:TypeId)(w:World):Own B E w none 0 0 []:=World.ownsRow_nil w B E 1
theorem Own.len {B:Nat}{E:TypeId}{w:World}{a:Option Addr}{n cap:Nat}{xs:List Value}(h:Own B E w a n cap xs):xs.length=n:=by simpa using h.1
theorem Own.lenI {B:Nat}{E:TypeId}{w:World}{a:Option Addr}{n cap:Nat}{k:IntKind}{zs:List Int}(h:Own B E w a n cap (ivs k zs)):zs.length=n:=by
 simpa [ivs]using h.len
theorem Own.at {B:Nat}{E:TypeId}{w:World}{a:Option Addr}{n cap:Nat}{xs:List Value}(h:Own B E w a n cap xs)(hn:0<n):
  ∃g,a=some ⟨g,0,none⟩∧B≤g∧g<w.heap.size∧n≤cap∧cap≤maxLen:=by
 rcases h.2 with⟨_,h0⟩ | ⟨g,cap',cur,e,hb,hg,hnc,hcm,_⟩
 ·omega
 ·simp only[Value.slice.injEq]at e;obtain⟨rfl,_,rfl⟩:=e;exact⟨g,rfl,hb,(jL hg),hnc,hcm⟩
theorem Own.cell {B:Nat}{E:TypeId}{w:World}{g n cap:Nat}{xs:List Value}(h:Own B E w (some ⟨g,0,none⟩) n cap xs)(i:Nat)(hi:i<xs.length):
  w.cell? ⟨g,i,none⟩=some xs[i]:=by
 have hl:=h.len;rw[World.ownsRow.cellAt h i (by omega)];simp[hi]
theorem Own.cap {B:Nat}{E:TypeId}{w:World}{a:Option Addr}{n cap:Nat}{xs:List Value}(h:Own B E w a n cap xs):n≤cap∧cap≤maxLen:=by
 rcases h.2 with⟨e,h0⟩ | ⟨g,cap',cur,e,hb,hg,hnc,hcm,_⟩
 ·simp at e;obtain⟨_,rfl,rfl⟩:=e;exact⟨Nat.le_refl _,Nat.zero_le _⟩
 ·simp only[Value.slice.injEq]at e;obtain⟨rfl,_,rfl⟩:=e;exact⟨hnc,hcm⟩
theorem Own.ints {B:Nat}{E:TypeId}{w:World}{a:Option Addr}{n cap:Nat}{k:IntKind}{zs:List Int}(h:Own B E w a n cap (ivs k zs)):Ints k w a zs:=by
 intro i hi;have hl:=h.lenI;obtain⟨g,rfl,_⟩:=h.at (by omega);refine⟨g,0,rfl,?_⟩;have:=h.cell i (by simpa [ivs]using hi)
 simpa [ivs]using this
theorem Own.below {B B':Nat}{E:TypeId}{w w':World}{a:Option Addr}{n cap:Nat}{xs:List Value}(h:Own B E w a n cap xs)(hb:Below B' w w')(hB:w.heap.size≤B'):Own B E w' a n cap xs:=by
 refine⟨h.1,?_⟩
 rcases h.2 with hn | ⟨g,cap,cur,e,hbg,hgg,rest⟩
 ·exact .inl hn
 ·exact .inr ⟨g,cap,cur,e,hbg,by rw[hb.block g (by have:=(jL hgg);omega)];exact hgg,rest⟩
theorem Own.grown {B:Nat}{E:TypeId}{w w':World}{a:Option Addr}{n cap:Nat}{xs:List Value}{row:Option Nat}(h:Own B E w a n cap xs)(hg:w.grownBy w' row)(hne:(Value.slice a n cap).ownBlock=none∨(Value.slice a n cap).ownBlock≠row):Own B E w' a n cap xs:=
 World.ownsRow.kept h hg hne
theorem Own.mono {B B':Nat}{E:TypeId}{w:World}{a:Option Addr}{n cap:Nat}{xs:List Value}(h:Own B E w a n cap xs)(hB:B'≤B):Own B' E w a n cap xs:=by
 refine⟨h.1,?_⟩
 rcases h.2 with hn | ⟨g,cap,cur,e,hbg,rest⟩
 ·exact .inl hn
 ·exact .inr ⟨g,cap,cur,e,by omega,rest⟩
theorem Own.store {B:Nat}{E:TypeId}{w:World}{g n cap:Nat}{xs:List Value}(h:Own B E w (some ⟨g,0,none⟩) n cap xs)(j:Nat)(u:Value):
  Own B E (w.setCell ⟨g,j,none⟩ u) (some ⟨g,0,none⟩) n cap (xs.set j u):=(World.ownsRow.stored h j u).1
theorem Own.unfrozen {B:Nat}{E:TypeId}{w:World}{g n cap:Nat}{xs:List Value}(h:Own B E w (some ⟨g,0,none⟩) n cap xs)(j:Nat):
  w.frozen? ⟨g,j,none⟩=false:=World.ownsRow.frozenAt h j
structure kKx (P:Program) (t e:TypeId) (z:Value) (bytes:Nat):Prop where
 und:P.underlying t=some (.slice e)
 inf:(P.info? e).map (fun i=>(i.zero,i.size,i.bytes))=some (some z,1,bytes)
 one:z.cells.size=1
def kBe (w:World) (v v':Value):Prop:=v'.ownBlock=v.ownBlock∨∃g,v'.ownBlock=some g∧w.heap.size≤g
theorem kGp {P:Program}(w:World)(base:Nat)(t ty e:TypeId)(i:TypeInfo)(z:Value)(size bytes:Nat)(ht:P.underlying t=some (.slice e))(hi:P.info? e=some i)(hz:i.zero=some z)
  (hsize:i.size=size)(hby:i.bytes=bytes)(hzs:z.cells.size=size)(hsz:0<size)
  (v:Value)(n:Nat)(xs:List Value)(hown:w.ownsRow base e size v n xs)
  (a:Addr)(m c:Nat)(news:List Value)(hl:news.length=m*size)(hnews:∀j u,news[j]? =some u→w.cell? (a.add j)=some u)(h1:∀u∈news,u.oneCell'=true)
  (h63:n+m≤maxLen)(hbytes:(n+m)*bytes≤140737488355328)(hbase:base≤w.heap.size):
  ∃v' w',(Builtin.append_ #[t,t] ty #[v,.slice (some a) m c]).run P w= .ok v' w'∧w'.ownsRow base e size v' (n+m) (xs++news)∧w.grownBy w' v.ownBlock∧kBe w v v':=by
 obtain⟨v',w',hr,h2,h3,h4⟩:=run_append_own (P:=P) w base t ty e i z size bytes ht hi hz hsize hby hzs hsz v n xs hown a m c news hl hnews h1 h63 hbytes hbase;refine⟨v',w',hr,h2,h3,?_⟩;subst hsize;subst hby
 have hsmall:n+m≤9223372036854775807:=by simp only[maxLen]at h63;omega
 rcases hown.2 with⟨rfl,rfl⟩ | ⟨g,cap,cur,rfl,hbg,hg,hnc,hcm,hcs,htake⟩
 ·by_cases hm:m=0
  ·have:=h4.2 ⟨rfl,hm⟩;subst this;exact .inl rfl
  ·have hr2:=run_append_nil (P:=P) w t ty e i z ht hi hz a m c news hl hnews (by omega) (by omega) (by have hb:=hbytes;simp only[Nat.zero_add]at hb;omega);rw[hr2]at hr;simp only[Result.ok.injEq]at hr;rw[←hr.1];exact .inr ⟨w.heap.size,rfl,Nat.le_refl _⟩
 ·by_cases hroom:n+m≤cap
  ·have hfit:n*i.size+news.length≤cur.size:=by rw[hl,hcs,←Nat.add_mul];exact Nat.mul_le_mul_right _ hroom
   have hr2:=run_append_room (P:=P) w t ty e i ht hi g n cap cur hg a m c news hl hnews h1 hroom hfit;rw[hr2]at hr;simp only[Result.ok.injEq]at hr;rw[←hr.1];exact .inl rfl
  ·have holds:∀j u,xs[j]? =some u→w.cell? ((⟨g,0,none⟩:Addr).add j)=some u:=hown.cells (g:=g) rfl;have hr2:=run_append_grow (P:=P) w t ty e i z ht hi hz ⟨g,0,none⟩ n cap xs hown.1 holds a m c news hl hnews (by omega) (by omega) (growslice_fits (by omega) hbytes);rw[hr2]at hr;simp only[Result.ok.injEq]at hr;rw[←hr.1];exact .inr ⟨w.heap.size,rfl,Nat.le_refl _⟩
theorem kDl {P:Program}{t e:TypeId}{z:Value}{bytes:Nat}(el:kKx P t e z bytes){w:World}{ops:Array Oper}{rest:List Oper}{o:Oper}{act:Act}{Q:Exit→Act→World→Prop}(hgd:o.guard=none)(s x:Operand)
  (ho:o.op= .call {callee:= .builtin .append,args:= #[s,x],argTypes:= #[t,t]}){B:Nat}{a:Option Addr}{n cap:Nat}{xs:List Value}(hown:Own B e w a n cap xs)(hB:B≤w.heap.size)(hn:(n+1)*bytes≤140737488355328)(hm:n<140737488355328)(u:Value)(hu:u.oneCell'=true)(e':TypeId)
  (hs:act.eval s= .slice a n cap)(hx:act.eval x= .slice (some ⟨w.heap.size,0,none⟩) 1 1)
  (h:∀a' cap' w',Own B e w' a' (n+1) cap' (xs++[u])→w.grownBy w' (Value.slice a n cap).ownBlock→kBe w (.slice a n cap) (.slice a' (n+1) cap')→wpList P ops Q rest (act.put o.dst (.slice a' (n+1) cap')) w'):
  wpList P ops Q (o :: rest) act (w.alloc (.cells #[u] e')):=by
 obtain⟨i,hi,hz,h1,hb⟩:=info_parts el.inf
 refine wpList_plain hgd fun K hK'=> ?_
 have hcell:∀j v,[u][j]? =some v→(w.alloc (.cells #[u] e')).cell? ((⟨w.heap.size,0,none⟩:Addr).add j)=some v:=by
  intro j v hv
  have hj:j=0:=by
   have:=(List.getElem?_eq_some_iff.1 hv).1
   simp at this;exact this
  subst hj
  simp at hv;subst hv
  rw[show((⟨w.heap.size,0,none⟩:Addr).add 0)=⟨w.heap.size,0,none⟩from by simp[Addr.add]];rw[jK (w.alloc (.cells #[u] e')) w.heap.size 0 #[u] e' (0,0) (jN w _)]
  rfl
 obtain⟨v',w',hr,h2,h3,h4⟩:=kGp (P:=P) (w.alloc (.cells #[u] e')) B t o.type e i z 1 bytes el.und hi hz h1 hb el.one (by decide) _ n xs (World.ownsRow.alloc hown _) ⟨w.heap.size,0,none⟩ 1 1 [u] rfl hcell (by intro v hv;simp at hv;subst hv;exact hu) (by simp only[maxLen];omega) hn (by simp;omega);unfold Oper.wp execOp;simp only[ho,resolve,invoke,builtin,Sem.run_bind,Sem.run_pure,Result.andThen_ok,List.map_toArray,List.map_cons,List.map_nil,hs,hx,hr]
 have hv':∃a' cap',v'= .slice a' (n+1) cap':=by
  rcases h2.2 with⟨rfl,h0⟩ | ⟨g,cap',cur,rfl,_⟩
  ·omega
  ·exact⟨_,_,rfl⟩
 obtain⟨a',cap',rfl⟩:=hv'
 refine hK' _ _ (h a' cap' w' h2 ?_ ?_)
 ·refine⟨h3.os,h3.tape,h3.output,by have:=h3.size;simp at this;omega,fun k hk hne=> ?_⟩;rw[h3.block k (by simp;omega) hne];exact Below.heap_alloc w _ k hk
 ·rcases h4 with h4 | ⟨g,h4,h5⟩
  ·exact .inl h4
  ·exact .inr ⟨g,h4,by simp at h5;omega⟩
theorem kRs {P:Program}{t e:TypeId}{z:Value}{bytes:Nat}(el:kKx P t e z bytes)(hz1:z.cells= #[z]){w:World}{ops:Array Oper}{rest:List Oper}{o:Oper}{act:Act}{Q:Exit→Act→World→Prop}(hgd:o.guard=none)(l c:Operand)
  (ho:o.op= .makeSlice t l c)(n:Nat)(hb:bytes*n≤281474976710656)(hm:n≤maxLen)(hl:act.eval l= .int .i64 (n:Int))(hc:act.eval c= .int .i64 (n:Int))
  (h:∀w',Own w.heap.size e w' (some ⟨w.heap.size,0,none⟩) n n (List.replicate n z)→Below w.heap.size w w'→w'.heap.size=w.heap.size+1→wpList P ops Q rest (act.put o.dst (.slice (some ⟨w.heap.size,0,none⟩) n n)) w'):
  wpList P ops Q (o :: rest) act w:=by
 obtain⟨i,hi,hz,h1,hb'⟩:=info_parts el.inf;subst hb'
 refine wpList_plain hgd fun K hK'=> ?_
 have h63':(n:Int)≤9223372036854775807:=by simp[maxLen]at hm;omega
 have hb'':(i.bytes:Int)*(n:Int)≤281474976710656:=by
  have h:((i.bytes*n:Nat):Int)≤281474976710656:=by omega
  rwa[Int.natCast_mul]at h
 have hr:=run_make (P:=P) w t e i z el.und hi hz .i64 .i64 n n (by omega) (Int.le_refl _) hb'' h63';simp only[Int.toNat_natCast]at hr;unfold Oper.wp;simp[execOp,ho,hl,hc,hr,Result.andThen];refine hK' _ _ (h _ ?_ ((Below.refl _ _).alloc jR _) (by simp));have:=World.ownsRow_lit (size:=1) (e:=e) w (madeCells z.cells (n*i.size)) n jR hm (by rw[size_madeCells,h1]);rw[h1,hz1,Nat.mul_one,toList_madeCells_one]at this;rw[h1,hz1,Nat.mul_one];exact this
theorem Below.ofGrown {w w':World}{B:Nat}{v:Value}(hg:w.grownBy w' v.ownBlock)(hB:B≤w.heap.size)(hr:∀k,v.ownBlock=some k→B≤k):Below B w w':=
 (Below.refl B w).grown hg hB hr
theorem Own.blk {B:Nat}{E:TypeId}{w:World}{a:Option Addr}{n cap:Nat}{xs:List Value}(h:Own B E w a n cap xs):∀k,(Value.slice a n cap).ownBlock=some k→B≤k:=
 fun k hk=>(World.ownsRow.lt h k hk).1
theorem Own.app {B:Nat}{E:TypeId}{w w':World}{a:Option Addr}{n cap:Nat}{xs:List Value}(h:Own B E w a n cap xs)(hg:w.grownBy w' (Value.slice a n cap).ownBlock)(hB:B≤w.heap.size):Below B w w':=
 Below.ofGrown hg hB h.blk
theorem Own.lit {B:Nat}{E:TypeId}(w:World)(cs:Array Value)(hB:B≤w.heap.size)(hm:cs.size≤maxLen):Own B E (w.alloc (.cells cs E)) (some ⟨w.heap.size,0,none⟩) cs.size cs.size cs.toList:=
 World.ownsRow_lit w cs cs.size hB hm (by simp)
theorem kAd (w:World)(g j:Nat)(u:Value):w.grownBy (w.setCell ⟨g,j,none⟩ u) (some g):=
 ⟨rfl,rfl,rfl,by simp,fun k _ hk=>jQ w ⟨g,j,none⟩ k u (fun e=>hk (by simp[e]))⟩
theorem kA4 {a b c:World}{row:Option Nat}(h:a.grownBy b row)(k:b.grownBy c row):a.grownBy c row:=
 ⟨k.os.trans h.os,k.tape.trans h.tape,k.output.trans h.output,Nat.le_trans h.size k.size,fun i hi hne=>(k.block i (Nat.lt_of_lt_of_le hi h.size) hne).trans (h.block i hi hne)⟩
def IsRow (k:IntKind) (w:World) (a:Option Addr) (len cap:Nat) (zs:List Int):Prop:=
 (a=none∧len=0∧cap=0∧zs=[])∨
 ∃x,a=some x∧len≤cap∧cap≤maxLen∧zs.length=cap∧(∀i,i<zs.length→w.cell? (x.add i)=some (.int k (zs.getD i 0)))∧∀n∈zs,(Lit.int k n).wf=true
theorem isRow_ints {k:IntKind}{w:World}{a:Option Addr}{len cap:Nat}{zs:List Int}(h:IsRow k w a len cap zs):
  Ints k w a (zs.take len)∧(zs.take len).length=len∧len≤9223372036854775807∧(∀n∈zs.take len,(Lit.int k n).wf=true):=by
 rcases h with⟨rfl,rfl,rfl,rfl⟩ | ⟨x,rfl,hl,hm,hz,hcell,hwz⟩
 ·exact⟨Ints.nil _ _ _,rfl,by omega,fun n hn=>by simp at hn⟩
 ·have hlen:(zs.take len).length=len:=by rw[List.length_take];omega
  refine⟨?_,hlen,by unfold maxLen at hm;omega,fun n hn=>hwz n (List.mem_of_mem_take hn)⟩;intro i hi;rw[hlen]at hi;have hc:=hcell i (by omega);have h0:=hcell 0 (by omega);obtain⟨b,off,spot⟩:=x
  have hspot:spot=none:=by simpa [Addr.add]using World.cell?_spot h0
  subst hspot;refine⟨b,off,rfl,?_⟩;simp only[Addr.add_lit]at hc;rw[hc];simp[List.getD_eq_getElem?_getD,show i<zs.length by omega]
theorem kJo {a b:Value}(h:a=b):Ending.returned a= .returned b:=by rw[h]
end Go.Proofs.YtbmphakfgoompaaGreat

namespace Go.Proofs.YtbmphakfgoompaaGreat
open Go.RowKit
def kKe (w:World) (a:Option Addr) (xs:List Value):Prop:=
 ∀i (h:i<xs.length),∃b o,a=some ⟨b,o,none⟩∧w.cell? ⟨b,o+i,none⟩=some xs[i]
theorem kGk (k:IntKind)(zs:List Int):∀u∈ivs k zs,u.oneCell'=true:=by
 intro u hu;obtain⟨_,_,rfl⟩:=List.mem_map.1 hu
 rfl
theorem kRt {P:Program}{t e:TypeId}{z:Value}{bytes:Nat}(el:kKx P t e z bytes){w:World}{o:Oper}{act:Act}{K:Act→World→Prop}{Q:Exit→Act→World→Prop}(s x:Operand)
  (ho:o.op= .call {callee:= .builtin .append,args:= #[s,x],argTypes:= #[t,t]}){B:Nat}{a:Option Addr}{n cap:Nat}{xs:List Value}(hown:Own B e w a n cap xs)(hB:B≤w.heap.size)
  {a2:Option Addr}{m c:Nat}{ys:List Value}(hys:ys.length=m)(hsrc:kKe w a2 ys)(hnone:a2=none→c=0)(hone:∀u∈ys,u.oneCell'=true)(hn:(n+m)*bytes≤140737488355328)(hm:n+m≤maxLen)
  (hs:act.eval s= .slice a n cap)(hx:act.eval x= .slice a2 m c)
  (h:∀a' cap' w',Own B e w' a' (n+m) cap' (xs++ys)→w.grownBy w' (Value.slice a n cap).ownBlock→kBe w (.slice a n cap) (.slice a' (n+m) cap')→K (act.put o.dst (.slice a' (n+m) cap')) w'):
  o.wp P act w K Q:=by
 obtain⟨i,hi,hz,h1,hb⟩:=info_parts el.inf
 cases a2 with
 | none=>
  have hy0:ys=[]:=by
   cases ys with
   | nil=>rfl
   | cons y t=>obtain⟨b,o,hbad,_⟩:=hsrc 0 (by simp);simp at hbad
  subst hy0
  have hm0:m=0:=by simpa using hys.symm
  subst hm0;have hc:=hnone rfl;subst hc;have hr:=run_append_owned_none (P:=P) w B t o.type e i 1 el.und hi _ n xs hown;unfold Oper.wp execOp;simp only[ho,resolve,invoke,builtin,Sem.run_bind,Sem.run_pure,Result.andThen_ok,List.map_toArray,List.map_cons,List.map_nil,hs,hx,hr];exact(h a cap w (by simpa using hown) ⟨rfl,rfl,rfl,Nat.le_refl _,fun _ _ _=>rfl⟩ (.inl rfl))
 | some ad=>
  have hcell:∀j v,ys[j]? =some v→w.cell? (ad.add j)=some v:=by
   intro j v hv;obtain⟨hj,hv2⟩:=List.getElem?_eq_some_iff.1 hv;obtain⟨b,o,h3,h4⟩:=hsrc j hj;obtain rfl:=Option.some.inj h3;rw[Addr.add_lit,h4,hv2]
  obtain⟨v',w',hr,h2,h3,h4⟩:=kGp (P:=P) w B t o.type e i z 1 bytes el.und hi hz h1 hb el.one (by decide) _ n xs hown ad m c ys (by simpa using hys) hcell hone hm hn hB;unfold Oper.wp execOp;simp only[ho,resolve,invoke,builtin,Sem.run_bind,Sem.run_pure,Result.andThen_ok,List.map_toArray,List.map_cons,List.map_nil,hs,hx,hr]
  have hv':∃a' cap',v'= .slice a' (n+m) cap':=by
   rcases h2.2 with⟨rfl,h0⟩ | ⟨g,cap',cur,rfl,_⟩
   ·exact⟨none,0,by rw[h0]⟩
   ·exact⟨_,_,rfl⟩
  obtain⟨a',cap',rfl⟩:=hv';exact h a' cap' w' h2 h3 h4
theorem kN3 {P:Program}{t e:TypeId}{z:Value}{bytes:Nat}(el:kKx P t e z bytes){w:World}{ops:Array Oper}{rest:List Oper}{o:Oper}{act:Act}{Q:Exit→Act→World→Prop}(hgd:o.guard=none)(s x:Operand)
  (ho:o.op= .call {callee:= .builtin .append,args:= #[s,x],argTypes:= #[t,t]}){B:Nat}{a:Option Addr}{n cap:Nat}{xs:List Value}(hown:Own B e w a n cap xs)(hB:B≤w.heap.size)
  {a2:Option Addr}{m c:Nat}{ys:List Value}(hys:ys.length=m)(hsrc:kKe w a2 ys)(hnone:a2=none→c=0)(hone:∀u∈ys,u.oneCell'=true)(hn:(n+m)*bytes≤140737488355328)(hm:n+m≤maxLen)
  (hs:act.eval s= .slice a n cap)(hx:act.eval x= .slice a2 m c)
  (h:∀a' cap' w',Own B e w' a' (n+m) cap' (xs++ys)→w.grownBy w' (Value.slice a n cap).ownBlock→kBe w (.slice a n cap) (.slice a' (n+m) cap')→wpList P ops Q rest (act.put o.dst (.slice a' (n+m) cap')) w'):
  wpList P ops Q (o :: rest) act w:=
 wpList_plain hgd fun _ hK=>kRt el s x ho hown hB hys hsrc hnone hone hn hm hs hx fun a' cap' w' h2 h3 h4=>hK _ _ (h a' cap' w' h2 h3 h4)
theorem kCm {P:Program}{t e:TypeId}{z:Value}{bytes:Nat}(el:kKx P t e z bytes){w:World}{ops:Array Oper}{o:Oper}{act:Act}{K:Act→World→Prop}{Q:Exit→Act→World→Prop}{E:Prop}(hgd:o.guard=none)(s x:Operand)
  (ho:o.op= .call {callee:= .builtin .append,args:= #[s,x],argTypes:= #[t,t]}){B:Nat}{a:Option Addr}{n cap:Nat}{xs:List Value}(hown:Own B e w a n cap xs)(hB:B≤w.heap.size)
  {a2:Option Addr}{m c:Nat}{ys:List Value}(hys:ys.length=m)(hsrc:kKe w a2 ys)(hnone:a2=none→c=0)(hone:∀u∈ys,u.oneCell'=true)(hn:(n+m)*bytes≤140737488355328)(hm:n+m≤maxLen)
  (hs:act.eval s= .slice a n cap)(hx:act.eval x= .slice a2 m c)
  (h:∀a' cap' w',Own B e w' a' (n+m) cap' (xs++ys)→w.grownBy w' (Value.slice a n cap).ownBlock→kBe w (.slice a n cap) (.slice a' (n+m) cap')→K (act.put o.dst (.slice a' (n+m) cap')) w'):
  if Region.wanted o (yielded ops act.tmps)=true then Oper.wp P o act w K Q else E:=by
 rw[if_pos (by simp[Region.wanted,hgd])];exact kRt el s x ho hown hB hys hsrc hnone hone hn hm hs hx h
end Go.Proofs.YtbmphakfgoompaaGreat

namespace Go.Proofs.YtbmphakfgoompaaGreat
open Go.RowKit
def kA2 (l:List Nat):List Int:=l.map (fun(j:Nat)=>(j:Int))
theorem kA6 (l:List Nat):(kA2 l).length=l.length:=by simp[kA2]
theorem kPd (l:List Nat)(x:Nat):kA2 (l++[x])=kA2 l++[(x:Int)]:=by simp[kA2]
end Go.Proofs.YtbmphakfgoompaaGreat

namespace Go.Proofs.YtbmphakfgoompaaGreat
open Go.RowKit
structure kFh (P:Program) (t e:TypeId) (z:Value) (size bytes:Nat):Prop where
 und:P.underlying t=some (.slice e)
 inf:(P.info? e).map (fun i=>(i.zero,i.size,i.bytes))=some (some z,size,bytes)
 sz:z.cells.size=size
 pos:0<size
section
variable {B : Nat} {E : TypeId} {w : World} {a : Option Addr} {n cap : Nat} {ps : List (Nat × Nat)}
end
end Go.Proofs.YtbmphakfgoompaaGreat

namespace Go.Proofs.YtbmphakfgoompaaGreat
open Go.RowKit
theorem kDj (b:Nat):∀(vs:List Value) (o:Nat) (w:World),w.grownBy (w.setCells b o vs) (some b)
 | [],o,w=>⟨rfl,rfl,rfl,Nat.le_refl _,fun _ _ _=>rfl⟩
 | v :: r,o,w=>by
  have h1:=kAd w b o v;have h2:=kDj b r (o+1) (w.setCell ⟨b,o,none⟩ v);rw[World.setCells];refine⟨h2.os.trans h1.os,h2.tape.trans h1.tape,h2.output.trans h1.output,Nat.le_trans h1.size h2.size,fun k hk hne=> ?_⟩;rw[h2.block k (Nat.lt_of_lt_of_le hk h1.size) hne,h1.block k hk hne]
def Any (s B:Nat) (E:TypeId) (w:World) (a:Option Addr) (n cap:Nat):Prop:=∃xs,w.ownsRow B E s (.slice a n cap) n xs
theorem Any.at {s B:Nat}{E:TypeId}{w:World}{a:Option Addr}{n cap:Nat}(h:Any s B E w a n cap)(hn:0<n):∃g,a=some ⟨g,0,none⟩∧B≤g∧g<w.heap.size:=by
 obtain⟨xs,h⟩:=h
 rcases h.2 with⟨e,h0⟩ | ⟨g,cap',cur,e,hb,hg,_⟩
 ·omega
 ·simp only[Value.slice.injEq]at e;obtain⟨rfl,_,rfl⟩:=e;exact⟨g,rfl,hb,(jL hg)⟩
theorem Any.there {s B:Nat}{E:TypeId}{w:World}{g n cap:Nat}(h:Any s B E w (some ⟨g,0,none⟩) n cap)(i:Nat)(hi:i<n):w.there g (i*s) s:=by
 obtain⟨xs,h⟩:=h;intro j hj
 have hlt:i*s+j<n*s:=by
  calc i*s+j<i*s+s:=by omega
   _=(i+1)*s:=by rw[Nat.add_mul,Nat.one_mul]
   _≤n*s:=Nat.mul_le_mul_right _ (by omega)
 refine⟨?_,World.ownsRow.frozenAt h _⟩;rw[World.ownsRow.cellAt h _ hlt];have:=h.1;rw[List.getElem?_eq_getElem (by omega)]
 rfl
theorem Own.any {B:Nat}{E:TypeId}{w:World}{a:Option Addr}{n cap:Nat}{xs:List Value}(h:Own B E w a n cap xs):Any 1 B E w a n cap:=⟨_,h⟩
end Go.Proofs.YtbmphakfgoompaaGreat
