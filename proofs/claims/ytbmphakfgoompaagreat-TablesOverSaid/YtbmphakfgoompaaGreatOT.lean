/- several texts in one: TM TB TS TL -/
import Derived.DeepKeys3
import Derived.MapKept
import Derived.WalkKit
import Derived.Test.YtbmphakfgoompaaGreatOB
import Derived.Deep.MidRow
import Derived.StillTailTactics
import Derived.Test.YtbmphakfgoompaaGreatOR
set_option linter.unusedVariables false
set_option linter.unusedSimpArgs false
set_option maxRecDepth 100000
set_option maxHeartbeats 16000000
namespace Go.Proofs.YtbmphakfgoompaaGreat
open Go.RowKit
structure kGu (P:Program) (t E:TypeId) (n sz:Nat) {α:Type} (val:α→Value) (eqB:α→α→Bool):Prop where
 und:P.underlying t=some (.array n E)
 inf:∃i,P.info? E=some i
 cel:P.cellsOf E=sz
 wide:∀a,(val a).cells.toList.length=sz
 part:∀(w:World) (xs:Array Value) (off:Nat) (a:α),(xs.toList.drop off).take sz=(val a).cells.toList→(part E xs off).run P w= .ok (val a) w
 eqE:∀(w:World) (d:Nat) (a b:α),(Op.equalIn (d+3) E (val a) (val b)).run P w= .ok (eqB a b) w
 chk:∀(w:World) (em:Bool) (d:Nat) (a:α),(Instr.checkKey em (d+3) E (val a)).run P w= .ok () w
section
variable {α : Type}
def kAh (val:α→Value) (l:List α):List Value:=l.flatMap (fun a=>(val a).cells.toList)
def kD8 (val:α→Value) (l:List α):Value:= .agg (kAh val l).toArray
def eqL (eqB:α→α→Bool):List α→List α→Bool
 | a :: l,b :: m=>eqB a b&&eqL eqB l m
 | _,_=>true
variable {P : Program} {t E : TypeId} {n sz : Nat} {val : α → Value} {eqB : α → α → Bool}
theorem kAf (hw:∀a,(val a).cells.toList.length=sz)(l:List α):(kAh val l).length=l.length*sz:=by
 induction l with
 | nil=>simp[kAh]
 | cons a l ih=>
  rw[kAh,List.flatMap_cons,List.length_append,hw,List.length_cons,Nat.add_mul,Nat.one_mul];rw[kAh]at ih;omega
theorem kP3 (hw:∀a,(val a).cells.toList.length=sz)(l:List α)(k:Nat):(kAh val l).drop (k*sz)=kAh val (l.drop k):=by
 induction k generalizing l with
 | zero=>simp
 | succ k ih=>
  cases l with
  | nil=>simp[kAh]
  | cons a l=>
   rw[List.drop_succ_cons,←ih l,kAh,List.flatMap_cons,←kAh,Nat.add_mul,Nat.one_mul,Nat.add_comm,←List.drop_drop]
   congr 1
   rw[←hw a,List.drop_left]
theorem kI2 (hw:∀a,(val a).cells.toList.length=sz)(l:List α)(k:Nat)(hk:k<l.length):((kAh val l).drop (k*sz)).take sz=(val l[k]).cells.toList:=by
 rw[kP3 hw,List.drop_eq_getElem_cons hk,kAh,List.flatMap_cons,←hw l[k],List.take_left]
theorem kGu.equal_items (K:kGu P t E n sz val eqB)(w:World)(d:Nat)(l m:List α)(hl:l.length=n)(hm:m.length=n):∀(j k:Nat),k+j=n→
  (Op.eqItems (d+3) E (P.cellsOf E) (kAh val l).toArray (kAh val m).toArray (List.range' k j)).run P w= .ok (eqL eqB (l.drop k) (m.drop k)) w:=by
 intro j
 induction j with
 | zero=>
  intro k hk;rw[List.drop_eq_nil_of_le (by omega)];simp[Op.eqItems,eqL]
 | succ j ih=>
  intro k hk
  have hk1:k<l.length:=by omega
  have hk2:k<m.length:=by omega
  rw[List.range'_succ,Op.eqItems,K.cel,List.drop_eq_getElem_cons hk1,List.drop_eq_getElem_cons hk2];have p1:=K.part w (kAh val l).toArray (k*sz) l[k] (by rw[←kI2 K.wide l k hk1]);have p2:=K.part w (kAh val m).toArray (k*sz) m[k] (by rw[←kI2 K.wide m k hk2]);have p3:=K.eqE w d l[k] m[k];have p4:=ih (k+1) (by omega);rw[K.cel]at p4;simp only[Sem.run_bind,p1,p2,p3,Result.andThen_ok,eqL]
  cases h:eqB l[k] m[k]
  ·simp
  ·simpa using p4
theorem kGu.equal (K:kGu P t E n sz val eqB)(w:World)(l m:List α)(hl:l.length=n)(hm:m.length=n):(Op.equal t (kD8 val l) (kD8 val m)).run P w= .ok (eqL eqB l m) w:=by
 obtain⟨i,hi⟩:=K.inf;have:=K.equal_items w 9996 l m hl hm n 0 (by omega);rw[←List.range_eq_range']at this;rw[Op.equal,Op.maxDepth,show(10000:Nat)=(9996+3)+1 from rfl,kD8,kD8,run_equalIn_array w (9996+3) _ _ K.und hi]
 simpa using this
theorem kGu.check (K:kGu P t E n sz val eqB)(w:World)(em:Bool)(l:List α)(hl:l.length=n):(Instr.checkKey em 10000 t (kD8 val l)).run P w= .ok () w:=by
 obtain⟨i,hi⟩:=K.inf;rw[show(10000:Nat)=(9996+3)+1 from rfl,kD8,Instr.checkKey];simp only[Sem.run_bind,run_underlying K.und,Result.andThen_ok];simp only[Std.Legacy.Range.forIn_eq_forIn_range',Std.Legacy.Range.size,Nat.sub_zero,Nat.add_one_sub_one,Nat.div_one]
 have each:∀j∈List.range' 0 n,j<l.length:=fun j hj=>by rw[List.mem_range']at hj;omega
 generalize List.range' 0 n=is at each
 induction is with
 | nil=>simp
 | cons j is ih=>
  have hj:=each j (by simp);have p1:=K.part w (kAh val l).toArray (j*sz) l[j] (by rw[←kI2 K.wide l j hj]);have p2:=K.chk w em 9996 l[j];simp only[List.forIn_cons,Sem.run_bind,run_sizeOf w hi,Result.andThen_ok,K.cel,p1,p2,Sem.run_pure];exact ih (fun y hy=>each y (by simp[hy]))
def kCn (val:α→Value):Nat→List (List α)→List MapEntry
 | _,[]=>[]
 | i,l :: L=>{key:=kD8 val l,val:= .int .u16 (i:Nat),born:=i} :: kCn val (i+1) L
def kI8 (val:α→Value) (L:List (List α)):Array MapEntry:=(kCn val 0 L).toArray
def kAq (eqB:α→α→Bool) (l:List α) (L:List (List α)):Option Nat:=L.findIdx? (eqL eqB l)
theorem kI7 (val:α→Value)(L:List (List α))(l:List α):∀i,kCn val i (L++[l])=kCn val i L++[{key:=kD8 val l,val:= .int .u16 ((i+L.length:Nat):Int),born:=i+L.length}]:=by
 induction L with
 | nil=>intro i;rfl
 | cons x L ih=>
  intro i;rw[List.cons_append,kCn,ih,kCn,List.length_cons,List.cons_append,show i+1+L.length=i+(L.length+1) by omega]
theorem kO5 (val:α→Value)(L:List (List α))(l:List α):kI8 val (L++[l])=(kI8 val L).push {key:=kD8 val l,val:= .int .u16 (L.length:Nat),born:=L.length}:=by
 simp[kI8,kI7]
theorem kGu.find_asking (K:kGu P t E n sz val eqB)(w:World)(l:List α)(hl:l.length=n):∀(L:List (List α)) (i:Nat) (j:Nat),(∀m∈L,m.length=n)→
  (Instr.findAsking t (kD8 val l) (kCn val i L) j).run P w= .ok ((kAq eqB l L).map (fun k=>(j+k,.int .u16 ((i+k:Nat):Int)))) w:=by
 intro L
 induction L with
 | nil=>intro i j _;simp[kCn,Instr.findAsking,kAq]
 | cons m L ih=>
  intro i j hL;have h1:=K.equal w l m hl (hL m (by simp));have h2:=ih (i+1) (j+1) (fun m hm=>hL m (by simp[hm]));rw[kCn,Instr.findAsking];simp only[Sem.run_bind,h1,Result.andThen_ok,kAq,List.findIdx?_cons]
  cases h:eqL eqB l m
  ·simp only[Bool.false_eq_true,if_false,h2,kAq]
   congr 1
   rw[Option.map_map]
   congr 1
   funext k
   simp only[Function.comp];rw[show j+1+k=j+(k+1) by omega,show i+1+k=i+(k+1) by omega]
  ·simp
theorem kG3 (n:Nat)(E:TypeId)(k:Value)(e:MapEntry)(es:List MapEntry)(i:Nat):Instr.findNow (.array n E) k (e :: es) i=none:=by
 simp only[Instr.findNow,Instr.sameNow]
theorem kGu.find_key (K:kGu P t E n sz val eqB)(w:World)(l:List α)(hl:l.length=n)(L:List (List α))(hL:∀m∈L,m.length=n):
  (Instr.findKey t (kD8 val l) (kI8 val L).toList).run P w= .ok ((kAq eqB l L).map (fun k=>(k,.int .u16 (k:Int)))) w:=by
 have h:=K.find_asking w l hl L 0 0 hL;simp only[Nat.zero_add]at h;rw[Instr.findKey];simp only[Sem.run_bind,run_underlying K.und,Result.andThen_ok,kI8]
 cases L with
 | nil=>simp[kCn,Instr.findNow,kAq]
 | cons m L=>
  rw[show kCn val 0 (m :: L)={key:=kD8 val m,val:= .int .u16 ((0:Nat):Int),born:=0} :: kCn val 1 L from rfl,kG3];exact h
def kN4 (val:α→Value) (w:World) (b:Nat) (L:List (List α)):Prop:=w.heap[b]? =some (.map (kI8 val L) L.length)
def kHe (w:World) (b:Nat) (o:Obj):World:={w with heap:=w.heap.setIfInBounds b o}
def kQl (o:Option Nat):Value:=match o with
 | some k=> .tuple #[.int .u16 (k:Nat),.bool true]
 | none=> .tuple #[.int .u16 0,.bool false]
theorem kGu.lookup (K:kGu P t E n sz val eqB){tm te:TypeId}(hm:P.underlying tm=some (.map t te))(hz:∀w,(zeroValue te).run P w= .ok (.int .u16 0) w){w:World}{b:Nat}{L:List (List α)}(h:kN4 val w b L)(l:List α)(hl:l.length=n)(hL:∀m∈L,m.length=n):
  (Instr.lookup tm (.map (some b)) (kD8 val l) true).run P w= .ok (kQl (kAq eqB l L)) w:=by
 rw[Instr.lookup];simp only[Sem.run_bind,run_underlying hm,Result.andThen_ok,MapKept.run_getObj_map h,Sem.run_pure,K.check w _ l hl,K.find_key w l hl L hL]
 cases kAq eqB l L<;>simp[kQl,hz]
theorem kGu.store (K:kGu P t E n sz val eqB){tm te:TypeId}(hm:P.underlying tm=some (.map t te)){w:World}{b:Nat}{L:List (List α)}(h:kN4 val w b L)(l:List α)(hl:l.length=n)(hL:∀m∈L,m.length=n)(hn:kAq eqB l L=none):
  (Instr.mapUpdate tm (.map (some b)) (kD8 val l) (.int .u16 (L.length:Nat))).run P w= .ok () (kHe w b (.map (kI8 val (L++[l])) (L++[l]).length)):=by
 rw[Instr.mapUpdate];simp only[Sem.run_bind,run_underlying hm,Result.andThen_ok,MapKept.run_getObj_map h,K.check w _ l hl,K.find_key w l hl L hL,hn,Option.map_none,MapKept.run_setObj_map _ h];rw[kO5,List.length_append]
 rfl
end
end Go.Proofs.YtbmphakfgoompaaGreat

namespace Go.Proofs.YtbmphakfgoompaaGreat
open Go.RowKit
structure kAp (α:Type) where
 top:List Nat
 mid:List (List Nat)
 low:List (List α)
def kAb (k:Nat):Value:= .int .u16 (k:Nat)
def val8 (x:Int):Value:= .int .u8 x
section
variable {α : Type}
def kAg (val:α→Value) (n:Nat) (w:World) (a:Option Addr) (L:List (List α)):Prop:=
 ∀i,(h:i<L.length)→∃b o,a=some ⟨b,o,none⟩∧w.rangeAt b (o+i*n) (kAh val L[i])
theorem kAg.get {val:α→Value}{n:Nat}{w:World}{b o:Nat}{L:List (List α)}(h:kAg val n w (some ⟨b,o,none⟩) L)(i:Nat)(hi:i<L.length):w.rangeAt b (o+i*n) (kAh val L[i]):=by
 obtain⟨b',o',e,hc⟩:=h i hi;simp only[Option.some.injEq,Addr.mk.injEq,and_true]at e;obtain⟨rfl,rfl⟩:=e;exact hc
theorem kAg.some {val:α→Value}{n:Nat}{w:World}{a:Option Addr}{L:List (List α)}(h:kAg val n w a L)(hn:0<L.length):∃b o,a=Option.some ⟨b,o,none⟩:=by
 obtain⟨b,o,e,_⟩:=h 0 hn;exact⟨b,o,e⟩
theorem kAx {w w':World}{B b o:Nat}{cs:List Value}(h:w.rangeAt b o cs)(hb:Below B w w')(hB:w.heap.size≤B):w'.rangeAt b o cs:=fun j v hv=>by
 have h1:=h j v hv;rw[hb.cell (p:=⟨b,o+j,none⟩) (Nat.lt_of_lt_of_le (World.block_lt_of_cell? w _ h1) hB)];exact h1
theorem kAg.below {val:α→Value}{n:Nat}{w w':World}{B:Nat}{a:Option Addr}{L:List (List α)}(h:kAg val n w a L)(hb:Below B w w')(hB:w.heap.size≤B):kAg val n w' a L:=fun i hi=>by
 obtain⟨b,o,e,hr⟩:=h i hi;exact⟨b,o,e,kAx hr hb hB⟩
theorem kCf {val:α→Value}(h1:∀a,(val a).cells.toList=[val a])(l:List α)(j:Nat)(hj:j<l.length):(kAh val l)[j]? =some (val l[j]):=by
 induction l generalizing j with
 | nil=>simp at hj
 | cons a l ih=>
  rw[kAh,List.flatMap_cons,←kAh,h1]
  cases j with
  | zero=>simp
  | succ j=>simpa using ih j (by simpa using hj)
theorem kAg.cell {val:α→Value}(h1:∀a,(val a).cells.toList=[val a]){n:Nat}{w:World}{b o:Nat}{L:List (List α)}(h:kAg val n w (Option.some ⟨b,o,none⟩) L)(i:Nat)(hi:i<L.length)(j:Nat)(hj:j<L[i].length):
  w.cell? ⟨b,o+i*n+j,none⟩=Option.some (val L[i][j]):=h.get i hi j _ (kCf h1 _ j hj)
def kEi (T:kAp α) (am:Option Addr) (cm:Nat) (al:Option Addr) (cl:Nat):List Value:=T.top.map kAb++[Value.slice am T.mid.length cm,Value.slice al T.low.length cl]
def kAu (val:α→Value) (ty:TypeId) (n:Nat) (w:World) (g:Nat) (T:kAp α):Prop:=
 ∃am cm al cl,w.heap[g]? =some (.cells (kEi T am cm al cl).toArray ty (0,0))∧kAg kAb 64 w am T.mid∧kAg val n w al T.low
structure kBk (T:kAp α):Prop where
 top:T.top.length=272
 mid:∀m∈T.mid,m.length=64
 low:∀l∈T.low,l.length=64
 topN:∀k∈T.top,k<T.mid.length
 midN:∀m∈T.mid,∀k∈m,k<T.low.length
 midL:T.mid.length≤272
 lowL:T.low.length≤17408
theorem kAu.below {val:α→Value}{ty:TypeId}{n:Nat}{w w':World}{B g:Nat}{T:kAp α}(h:kAu val ty n w g T)(hb:Below B w w')(hB:w.heap.size≤B):kAu val ty n w' g T:=by
 obtain⟨am,cm,al,cl,h1,h2,h3⟩:=h;exact⟨am,cm,al,cl,by rw[hb.block g (by have:=(jL h1);omega)];exact h1,h2.below hb hB,h3.below hb hB⟩
theorem kAu.cell_mid {val:α→Value}{ty:TypeId}{w:World}{g:Nat}{T:kAp α}{am:Option Addr}{cm:Nat}{al:Option Addr}{cl:Nat}(hk:kBk T)(h:w.heap[g]? =some (.cells (kEi T am cm al cl).toArray ty (0,0))):
  w.cell? ⟨g,272,none⟩=some (.slice am T.mid.length cm):=by
 rw[jK w g 272 _ _ (0,0) h];simp[kEi,hk.top]
theorem kAu.cell_low {val:α→Value}{ty:TypeId}{w:World}{g:Nat}{T:kAp α}{am:Option Addr}{cm:Nat}{al:Option Addr}{cl:Nat}(hk:kBk T)(h:w.heap[g]? =some (.cells (kEi T am cm al cl).toArray ty (0,0))):
  w.cell? ⟨g,273,none⟩=some (.slice al T.low.length cl):=by
 rw[jK w g 273 _ _ (0,0) h];simp[kEi,hk.top]
theorem kAu.cell_top {val:α→Value}{ty:TypeId}{w:World}{g:Nat}{T:kAp α}{am:Option Addr}{cm:Nat}{al:Option Addr}{cl:Nat}(hk:kBk T)(h:w.heap[g]? =some (.cells (kEi T am cm al cl).toArray ty (0,0)))(j:Nat)(hj:j<272):
  w.cell? ⟨g,j,none⟩=some (kAb (T.top.getD j 0)):=by
 have hjl:j<T.top.length:=by rw[hk.top];exact hj
 rw[jK w g j _ _ (0,0) h];simp[kEi,hjl,List.getElem?_append]
def kAo (d:α) (T:kAp α) (r:Nat):α:=((T.low.getD ((T.mid.getD (T.top.getD (r / 4096) 0) []).getD (r / 64 % 64) 0) []).getD (r % 64) d)
def kAi (r:Int):Nat:=if r<0∨1114111<r then 65533 else r.toNat
theorem kBl (r:Int):kAi r≤1114111:=by unfold kAi;split<;>omega
end
theorem kBj (k:Nat):(kAb k).cells.toList=[kAb k]:=rfl
theorem kBz (k:Int):(val8 k).cells.toList=[val8 k]:=rfl
end Go.Proofs.YtbmphakfgoompaaGreat

namespace Go.Proofs.YtbmphakfgoompaaGreat
open Go.RowKit
structure MkS (α:Type) where
 top:List Nat
 cur:List Nat
 lows:List (List α)
 mids:List (List Nat)
 blocks:Nat
section
variable {α : Type}
def mkC (g:Nat) (S:MkS α):List Value:=[.pointer (some ⟨g,0,none⟩),.map (some (g+1)),.map (some (g+2)),.int .i64 (S.blocks:Nat)]++S.cur.map kAb
def trC (S:MkS α) (am:Option Addr) (cm:Nat) (al:Option Addr) (cl:Nat):List Value:=S.top.map kAb++[Value.slice am S.mids.length cm,Value.slice al S.lows.length cl]
structure MkW (S:MkS α):Prop where
 top:S.top.length=272
 cur:S.cur.length=64
 low:∀l∈S.lows,l.length=64
 mid:∀l∈S.mids,l.length=64
structure kBv (val:α→Value) (sz:Nat) (tM tT tA tV:TypeId) (w:World) (g:Nat) (S:MkS α) (ml:List (List α)) (mm:List (List Nat)) (am:Option Addr) (cm:Nat) (al:Option Addr) (cl:Nat):Prop where
 mk_:w.heap[g+3]? =some (.cells (mkC g S).toArray tM (0,0))
 tr:w.heap[g]? =some (.cells (trC S am cm al cl).toArray tT (0,0))
 rm:w.ownsRow (g+4) tA 64 (.slice am S.mids.length cm) S.mids.length (S.mids.flatMap (kAh kAb))
 rl:w.ownsRow (g+4) tV (64*sz) (.slice al S.lows.length cl) S.lows.length (S.lows.flatMap (kAh val))
 ap:∀k,(Value.slice am S.mids.length cm).ownBlock=some k→(Value.slice al S.lows.length cl).ownBlock≠some k
 lm:kN4 val w (g+1) ml
 mm_:kN4 kAb w (g+2) mm
variable {val : α → Value} {sz : Nat} {tM tT tA tV : TypeId} {w w' : World} {g : Nat} {S : MkS α} {ml : List (List α)} {mm : List (List Nat)} {am : Option Addr} {cm : Nat} {al : Option Addr} {cl : Nat}
theorem kBv.lt (h:kBv val sz tM tT tA tV w g S ml mm am cm al cl):g+4≤w.heap.size:=(jL h.mk_)
theorem kBv.below (h:kBv val sz tM tT tA tV w g S ml mm am cm al cl)(hb:Below w.heap.size w w'):kBv val sz tM tT tA tV w' g S ml mm am cm al cl:=by
 have hl:=h.lt;have k:∀b,b<w.heap.size→w'.heap[b]? =w.heap[b]? :=hb.block
 have r:∀ {E:TypeId} {s:Nat} {v:Value} {n:Nat} {xs:List Value},w.ownsRow (g+4) E s v n xs→w'.ownsRow (g+4) E s v n xs:=fun h=>
  h.kept (row:=none) ⟨hb.os,hb.tape,hb.output,hb.size,fun j hj _=>hb.block j hj⟩ (by rename_i v _ _;cases hv:v.ownBlock<;>simp)
 exact⟨(k _ (by omega)).trans h.mk_,(k _ (by omega)).trans h.tr,r h.rm,r h.rl,h.ap,(k _ (by omega)).trans h.lm,(k _ (by omega)).trans h.mm_⟩
theorem kBv.drew (h:kBv val sz tM tT tA tV w g S ml mm am cm al cl):kBv val sz tM tT tA tV w.drew g S ml mm am cm al cl:=⟨h.mk_,h.tr,h.rm,h.rl,h.ap,h.lm,h.mm_⟩
theorem kBv.c_t (h:kBv val sz tM tT tA tV w g S ml mm am cm al cl):w.cell? ⟨g+3,0,none⟩=some (.pointer (some ⟨g,0,none⟩)):=by rw[jK w (g+3) 0 _ _ (0,0) h.mk_];simp[mkC]
theorem kBv.c_lm (h:kBv val sz tM tT tA tV w g S ml mm am cm al cl):w.cell? ⟨g+3,1,none⟩=some (.map (some (g+1))):=by rw[jK w (g+3) 1 _ _ (0,0) h.mk_];simp[mkC]
theorem kBv.c_mm (h:kBv val sz tM tT tA tV w g S ml mm am cm al cl):w.cell? ⟨g+3,2,none⟩=some (.map (some (g+2))):=by rw[jK w (g+3) 2 _ _ (0,0) h.mk_];simp[mkC]
theorem kBv.c_b (h:kBv val sz tM tT tA tV w g S ml mm am cm al cl):w.cell? ⟨g+3,3,none⟩=some (.int .i64 (S.blocks:Nat)):=by rw[jK w (g+3) 3 _ _ (0,0) h.mk_];simp[mkC]
theorem kBv.c_cur (h:kBv val sz tM tT tA tV w g S ml mm am cm al cl)(j:Nat)(hj:j<S.cur.length):w.cell? ⟨g+3,4+j,none⟩=some (kAb S.cur[j]):=by
 rw[jK w (g+3) (4+j) _ _ (0,0) h.mk_];simp only[mkC,List.getElem?_toArray];rw[List.getElem?_append_right (by simp)];simp[show 4+j - 4=j by omega,hj]
theorem kBv.f_mk (h:kBv val sz tM tT tA tV w g S ml mm am cm al cl)(o:Nat):w.frozen? ⟨g+3,o,none⟩=false:=jO w (g+3) o _ _ h.mk_
theorem kBv.f_tr (h:kBv val sz tM tT tA tV w g S ml mm am cm al cl)(o:Nat):w.frozen? ⟨g,o,none⟩=false:=jO w g o _ _ h.tr
theorem kBv.r_cur (h:kBv val sz tM tT tA tV w g S ml mm am cm al cl):w.rangeAt (g+3) 4 (kAh kAb S.cur):=by
 intro j v hv
 have hb:kAh kAb S.cur=S.cur.map kAb:=by
  unfold kAh
  induction S.cur with
  | nil=>rfl
  | cons a l ih=>rw[List.flatMap_cons,ih,List.map_cons];rfl
 rw[hb,List.getElem?_map]at hv
 cases hc:S.cur[j]? with
 | none=>rw[hc]at hv;cases hv
 | some x=>
  rw[hc]at hv;obtain⟨hj,rfl⟩:=List.getElem?_eq_some_iff.1 hc;rw[h.c_cur j hj]
  simpa using hv
theorem kBv.c_mid (h:kBv val sz tM tT tA tV w g S ml mm am cm al cl)(hw:MkW S):w.cell? ⟨g,272,none⟩=some (.slice am S.mids.length cm):=by
 rw[jK w g 272 _ _ (0,0) h.tr];simp[trC,hw.top]
theorem kBv.c_low (h:kBv val sz tM tT tA tV w g S ml mm am cm al cl)(hw:MkW S):w.cell? ⟨g,273,none⟩=some (.slice al S.lows.length cl):=by
 rw[jK w g 273 _ _ (0,0) h.tr];simp[trC,hw.top]
theorem kBv.c_top (h:kBv val sz tM tT tA tV w g S ml mm am cm al cl)(hw:MkW S)(j:Nat)(hj:j<272):∃v,w.cell? ⟨g,j,none⟩=some v:=by
 rw[jK w g j _ _ (0,0) h.tr];refine⟨(trC S am cm al cl)[j]'(by simp[trC,hw.top];omega),?_⟩;simp[trC,hw.top]
theorem kAt {row:Option Nat}(hg:w.grownBy w' row){b:Nat}(hb:b<w.heap.size)(hr:∀k,row=some k→b≠k):w'.heap[b]? =w.heap[b]? :=
 hg.block b hb (fun e=>hr b e.symm rfl)
theorem kBv.push_low (h:kBv val sz tM tT tA tV w g S ml mm am cm al cl)(hw:MkW S)(l:List α){al':Option Addr}{cl':Nat}(ho:w'.ownsRow (g+4) tV (64*sz) (.slice al' (S.lows.length+1) cl') (S.lows.length+1) (S.lows.flatMap (kAh val)++kAh val l))
  (hg:w.grownBy w' (Value.slice al S.lows.length cl).ownBlock)(hn:kBe w (.slice al S.lows.length cl) (.slice al' (S.lows.length+1) cl')):
  kBv val sz tM tT tA tV (w'.setCell ⟨g,273,none⟩ (.slice al' (S.lows.length+1) cl')) g {S with lows:=S.lows++[l]} ml mm am cm al' cl':=by
 have hl:=h.lt;have hk:=World.ownsRow.lt h.rl;have hkm:=World.ownsRow.lt h.rm
 have oth:∀b,b<g+4→w'.heap[b]? =w.heap[b]? :=fun b hb=>kAt hg (by omega) (fun k e=>by have:=(hk k e).1;omega)
 have htr:=(oth g (by omega)).trans h.tr
 have hrm:w'.ownsRow (g+4) tA 64 (.slice am S.mids.length cm) S.mids.length (S.mids.flatMap (kAh kAb)):=h.rm.kept hg (by
  cases e:(Value.slice am S.mids.length cm).ownBlock with
  | none=>exact .inl rfl
  | some k=>exact .inr (fun e2=>h.ap k e e2.symm))
 refine⟨?_,?_,?_,?_,?_,?_,?_⟩
 ·rw[jQ w' ⟨g,273,none⟩ (g+3) _ (by simp)];exact(oth (g+3) (by omega)).trans h.mk_
 ·have:=jP w' g 273 _ _ (.slice al' (S.lows.length+1) cl') htr;rw[this];simp[trC,hw.top]
 ·exact hrm.kept (kAd w' g 273 _) (by
   cases e:(Value.slice am S.mids.length cm).ownBlock with
   | none=>exact .inl rfl
   | some k=>exact .inr (fun e2=>by cases e2;have:=(hkm _ e).1;omega))
 ·have:=ho.kept (kAd w' g 273 (.slice al' (S.lows.length+1) cl')) (by
   cases e:(Value.slice al' (S.lows.length+1) cl').ownBlock with
   | none=>exact .inl rfl
   | some k=>exact .inr (fun e2=>by cases e2;have:=(World.ownsRow.lt ho _ e).1;omega))
  simpa [List.flatMap_append]using this
 ·intro k e e2;simp only[List.length_append,List.length_singleton]at e2
  rcases hn with hn | ⟨gg,hn,hgg⟩
  ·rw[hn]at e2;exact h.ap k e e2
  ·rw[hn]at e2;cases e2;have:=(hkm _ e).2;omega
 ·show(w'.setCell ⟨g,273,none⟩ _).heap[g+1]? =_;rw[jQ w' ⟨g,273,none⟩ (g+1) _ (by simp)];exact(oth (g+1) (by omega)).trans h.lm
 ·show(w'.setCell ⟨g,273,none⟩ _).heap[g+2]? =_;rw[jQ w' ⟨g,273,none⟩ (g+2) _ (by simp)];exact(oth (g+2) (by omega)).trans h.mm_
theorem kBv.push_mid (h:kBv val sz tM tT tA tV w g S ml mm am cm al cl)(hw:MkW S)(l:List Nat){am':Option Addr}{cm':Nat}(ho:w'.ownsRow (g+4) tA 64 (.slice am' (S.mids.length+1) cm') (S.mids.length+1) (S.mids.flatMap (kAh kAb)++kAh kAb l))
  (hg:w.grownBy w' (Value.slice am S.mids.length cm).ownBlock)(hn:kBe w (.slice am S.mids.length cm) (.slice am' (S.mids.length+1) cm')):
  kBv val sz tM tT tA tV (w'.setCell ⟨g,272,none⟩ (.slice am' (S.mids.length+1) cm')) g {S with mids:=S.mids++[l]} ml mm am' cm' al cl:=by
 have hl:=h.lt;have hk:=World.ownsRow.lt h.rm;have hkl:=World.ownsRow.lt h.rl
 have oth:∀b,b<g+4→w'.heap[b]? =w.heap[b]? :=fun b hb=>kAt hg (by omega) (fun k e=>by have:=(hk k e).1;omega)
 have htr:=(oth g (by omega)).trans h.tr
 have hrl:w'.ownsRow (g+4) tV (64*sz) (.slice al S.lows.length cl) S.lows.length (S.lows.flatMap (kAh val)):=h.rl.kept hg (by
  cases e:(Value.slice al S.lows.length cl).ownBlock with
  | none=>exact .inl rfl
  | some k=>exact .inr (fun e2=>h.ap k e2.symm e))
 refine⟨?_,?_,?_,?_,?_,?_,?_⟩
 ·rw[jQ w' ⟨g,272,none⟩ (g+3) _ (by simp)];exact(oth (g+3) (by omega)).trans h.mk_
 ·have:=jP w' g 272 _ _ (.slice am' (S.mids.length+1) cm') htr;rw[this];simp[trC,hw.top]
 ·have:=ho.kept (kAd w' g 272 (.slice am' (S.mids.length+1) cm')) (by
   cases e:(Value.slice am' (S.mids.length+1) cm').ownBlock with
   | none=>exact .inl rfl
   | some k=>exact .inr (fun e2=>by cases e2;have:=(World.ownsRow.lt ho _ e).1;omega))
  simpa [List.flatMap_append]using this
 ·exact hrl.kept (kAd w' g 272 _) (by
   cases e:(Value.slice al S.lows.length cl).ownBlock with
   | none=>exact .inl rfl
   | some k=>exact .inr (fun e2=>by cases e2;have:=(hkl _ e).1;omega))
 ·intro k e e2;simp only[List.length_append,List.length_singleton]at e
  rcases hn with hn | ⟨gg,hn,hgg⟩
  ·rw[hn]at e;exact h.ap k e e2
  ·rw[hn]at e;cases e;have:=(hkl _ e2).2;omega
 ·show(w'.setCell ⟨g,272,none⟩ _).heap[g+1]? =_;rw[jQ w' ⟨g,272,none⟩ (g+1) _ (by simp)];exact(oth (g+1) (by omega)).trans h.lm
 ·show(w'.setCell ⟨g,272,none⟩ _).heap[g+2]? =_;rw[jQ w' ⟨g,272,none⟩ (g+2) _ (by simp)];exact(oth (g+2) (by omega)).trans h.mm_
theorem kB8 (w:World){b k:Nat}(o:Obj)(h:k≠b):(kHe w b o).heap[k]? =w.heap[k]? :=by
 simp[kHe,Array.getElem?_setIfInBounds,Ne.symm h]
theorem kEv (w:World){b:Nat}(o:Obj)(h:b<w.heap.size):(kHe w b o).heap[b]? =some o:=by
 simp[kHe,Array.getElem?_setIfInBounds,h]
theorem kKo (w:World)(b:Nat)(o:Obj):w.grownBy (kHe w b o) (some b):=
 ⟨rfl,rfl,rfl,by simp[kHe],fun k hk hne=>kB8 w o (fun e=>hne (by rw[e]))⟩
theorem kBv.put_lm (h:kBv val sz tM tT tA tV w g S ml mm am cm al cl)(L:List (List α)):kBv val sz tM tT tA tV (kHe w (g+1) (.map (kI8 val L) L.length)) g S L mm am cm al cl:=by
 have hl:=h.lt
 have r:∀ {E:TypeId} {s:Nat} {v:Value} {n:Nat} {xs:List Value},w.ownsRow (g+4) E s v n xs→(kHe w (g+1) (.map (kI8 val L) L.length)).ownsRow (g+4) E s v n xs:=fun {E s v n xs} h=>
  h.kept (kKo w (g+1) _) (by
   cases e:v.ownBlock with
   | none=>exact .inl rfl
   | some k=>exact .inr (fun e2=>by cases e2;have:=(World.ownsRow.lt h _ e).1;omega))
 exact⟨(kB8 w _ (by omega)).trans h.mk_,(kB8 w _ (by omega)).trans h.tr,r h.rm,r h.rl,h.ap,kEv w _ (by omega),(kB8 w _ (by omega)).trans h.mm_⟩
theorem kBv.put_mm (h:kBv val sz tM tT tA tV w g S ml mm am cm al cl)(L:List (List Nat)):kBv val sz tM tT tA tV (kHe w (g+2) (.map (kI8 kAb L) L.length)) g S ml L am cm al cl:=by
 have hl:=h.lt
 have r:∀ {E:TypeId} {s:Nat} {v:Value} {n:Nat} {xs:List Value},w.ownsRow (g+4) E s v n xs→(kHe w (g+2) (.map (kI8 kAb L) L.length)).ownsRow (g+4) E s v n xs:=fun {E s v n xs} h=>
  h.kept (kKo w (g+2) _) (by
   cases e:v.ownBlock with
   | none=>exact .inl rfl
   | some k=>exact .inr (fun e2=>by cases e2;have:=(World.ownsRow.lt h _ e).1;omega))
 exact⟨(kB8 w _ (by omega)).trans h.mk_,(kB8 w _ (by omega)).trans h.tr,r h.rm,r h.rl,h.ap,(kB8 w _ (by omega)).trans h.lm,kEv w _ (by omega)⟩
theorem kBv.store (h:kBv val sz tM tT tA tV w g S ml mm am cm al cl)(b o:Nat)(v:Value)(S':MkS α)(hb:b=g∨b=g+3)
  (h1:(w.setCell ⟨b,o,none⟩ v).heap[g+3]? =some (.cells (mkC g S').toArray tM (0,0)))(h2:(w.setCell ⟨b,o,none⟩ v).heap[g]? =some (.cells (trC S' am cm al cl).toArray tT (0,0)))(hm:S'.mids=S.mids)(hlo:S'.lows=S.lows):
  kBv val sz tM tT tA tV (w.setCell ⟨b,o,none⟩ v) g S' ml mm am cm al cl:=by
 have r:∀ {E:TypeId} {s:Nat} {u:Value} {n:Nat} {xs:List Value},w.ownsRow (g+4) E s u n xs→(w.setCell ⟨b,o,none⟩ v).ownsRow (g+4) E s u n xs:=fun {E s u n xs} h=>
  h.kept (kAd w b o v) (by
   cases e:u.ownBlock with
   | none=>exact .inl rfl
   | some k=>exact .inr (fun e2=>by cases e2;have:=(World.ownsRow.lt h _ e).1;omega))
 refine⟨h1,h2,by rw[hm];exact r h.rm,by rw[hlo];exact r h.rl,by rw[hm,hlo];exact h.ap,?_,?_⟩
 ·show(w.setCell ⟨b,o,none⟩ v).heap[g+1]? =_;rw[jQ w ⟨b,o,none⟩ (g+1) _ (by simp;omega)];exact h.lm
 ·show(w.setCell ⟨b,o,none⟩ v).heap[g+2]? =_;rw[jQ w ⟨b,o,none⟩ (g+2) _ (by simp;omega)];exact h.mm_
theorem kBv.set_cur (h:kBv val sz tM tT tA tV w g S ml mm am cm al cl)(j k:Nat):kBv val sz tM tT tA tV (w.setCell ⟨g+3,4+j,none⟩ (kAb k)) g {S with cur:=S.cur.set j k} ml mm am cm al cl:=by
 refine h.store (g+3) (4+j) _ _ (.inr rfl) ?_ ?_ rfl rfl
 ·rw[jP w (g+3) (4+j) _ _ (kAb k) h.mk_]
  have e:4+j=j+1+1+1+1:=by omega
  simp[mkC,e,List.map_set]
 ·rw[jQ w ⟨g+3,4+j,none⟩ g _ (by simp)];exact h.tr
theorem kBv.set_blocks (h:kBv val sz tM tT tA tV w g S ml mm am cm al cl)(k:Nat):kBv val sz tM tT tA tV (w.setCell ⟨g+3,3,none⟩ (.int .i64 (k:Nat))) g {S with blocks:=k} ml mm am cm al cl:=by
 refine h.store (g+3) 3 _ _ (.inr rfl) ?_ ?_ rfl rfl
 ·rw[jP w (g+3) 3 _ _ (.int .i64 (k:Nat)) h.mk_];simp[mkC]
 ·rw[jQ w ⟨g+3,3,none⟩ g _ (by simp)];exact h.tr
theorem kBv.set_top (h:kBv val sz tM tT tA tV w g S ml mm am cm al cl)(hw:MkW S)(j k:Nat)(hj:j<272):kBv val sz tM tT tA tV (w.setCell ⟨g,j,none⟩ (kAb k)) g {S with top:=S.top.set j k} ml mm am cm al cl:=by
 refine h.store g j _ _ (.inl rfl) ?_ ?_ rfl rfl
 ·rw[jQ w ⟨g,j,none⟩ (g+3) _ (by simp)];exact h.mk_
 ·rw[jP w g j _ _ (kAb k) h.tr];simp[trC,List.map_set,List.set_append,hw.top,hj]
def kBg {β:Type} (eqB:β→β→Bool) (L:List (List β)) (b:List β):List (List β)×Nat:=match kAq eqB b L with
 | some k=>(L,k)
 | none=>(L++[b],L.length)
def kE2 (eqB:α→α→Bool) (S:MkS α) (b:List α):MkS α:=
 let l:=kBg eqB S.lows b
 let cur:=S.cur.set (S.blocks % 64) l.2
 if(S.blocks+1) % 64=0 then
  let m:=kBg (fun x y:Nat=>decide (x=y)) S.mids cur
  {top:=S.top.set (S.blocks / 64) m.2,cur:=cur,lows:=l.1,mids:=m.1,blocks:=S.blocks+1}
 else {S with cur:=cur,lows:=l.1,blocks:=S.blocks+1}
end
end Go.Proofs.YtbmphakfgoompaaGreat

namespace Go.Proofs.YtbmphakfgoompaaGreat
open Go.RowKit
section
variable {P : Program} {ops : Array Oper} {w : World} {Q : Act → Prop} {rest : List Oper} {o : Oper} {a : Act}
theorem kFb {v:Value}(hg:o.guard=none)(hr:(execOp a.eval o).run P w= .ok (.value v) w)(h:wpStill P ops w Q rest (a.put o.dst v)):wpStill P ops w Q (o :: rest) a:=
 wpStill_step (fun K hK=>by
  simp only[Region.wanted,hg,if_true];unfold Oper.still;rw[hr,Oper.stillUpon_value]
  exact hK _ h)
theorem kBc (hg:o.guard=none)(ty:TypeId)(x:Operand)(ho:o.op= .load ty x)(b off:Nat)(hx:a.eval x= .pointer (some ⟨b,off,none⟩))(cs:List Value)(d:TypeDesc)(hc:w.rangeAt b off cs)
  (hu:P.underlying ty=some d)(hd:d.isRow=true)(hi:(P.info? ty).map (·.size)=some cs.length)(h:wpStill P ops w Q rest (a.put o.dst (.agg cs.toArray))):wpStill P ops w Q (o :: rest) a:=by
 refine kFb hg ?_ h;unfold execOp;simp only[ho,hx,Instr.loadAt,Instr.sureAddr,Sem.run_bind,Sem.run_pure,Result.andThen_ok,run_loadVar_mid w b off ty cs d hc hu hd hi]
theorem kDf (hg:o.guard=none)(ty:TypeId)(x y:Operand)(ok:Bool)(ho:o.op= .lookup ty x y ok)(xv yv v:Value)(hx:a.eval x=xv)(hy:a.eval y=yv)(hr:(Instr.lookup ty xv yv ok).run P w= .ok v w)
  (h:wpStill P ops w Q rest (a.put o.dst v)):wpStill P ops w Q (o :: rest) a:=by
 refine kFb hg ?_ h;unfold execOp;simp only[ho,hx,hy,Sem.run_bind,Sem.run_pure,Result.andThen_ok,hr]
end
theorem kAz {P:Program}{ops:Array Oper}{w w':World}{Q:Exit→Act→World→Prop}{rest:List Oper}{o:Oper}{a:Act}(hg:o.guard=none)(ty:TypeId)(m x v:Operand)(ho:o.op= .mapUpdate ty m x v)
  (mv xv vv:Value)(hm:a.eval m=mv)(hx:a.eval x=xv)(hv:a.eval v=vv)(hr:(Instr.mapUpdate ty mv xv vv).run P w= .ok () w')(h:wpList P ops Q rest (a.put o.dst undef) w'):wpList P ops Q (o :: rest) a w:=
 wpList_plain hg fun K hK=>by
  unfold Oper.wp execOp;simp only[ho,hm,hx,hv,Sem.run_bind,Sem.run_pure,Result.andThen_ok,hr];exact hK _ _ h
theorem kC4 {P:Program}{o:Oper}{a:Act}{w:World}(ty:TypeId)(x:Operand)(ho:o.op= .load ty x)(b off:Nat)(hx:a.eval x= .pointer (some ⟨b,off,none⟩))(cs:List Value)(d:TypeDesc)(hc:w.rangeAt b off cs)
  (hu:P.underlying ty=some d)(hd:d.isRow=true)(hi:(P.info? ty).map (·.size)=some cs.length):(execOp a.eval o).run P w= .ok (.value (.agg cs.toArray)) w:=by
 unfold execOp;simp only[ho,hx,Instr.loadAt,Instr.sureAddr,Sem.run_bind,Sem.run_pure,Result.andThen_ok,run_loadVar_mid w b off ty cs d hc hu hd hi]
theorem kQe {P:Program}{t e:TypeId}{z:Value}{size bytes:Nat}(el:kFh P t e z size bytes){w:World}{o:Oper}{act:Act}(s x:Operand)
  (ho:o.op= .call {callee:= .builtin .append,args:= #[s,x],argTypes:= #[t,t]}){B:Nat}{a:Option Addr}{n cap:Nat}{xs:List Value}(hown:w.ownsRow B e size (.slice a n cap) n xs)(hn:(n+1)*bytes≤140737488355328)(hm:n<140737488355328)(hB:B≤w.heap.size)(cs:List Value)(hcs:cs.length=size)(hu:∀u∈cs,u.oneCell'=true)(e':TypeId)
  (hs:act.eval s= .slice a n cap)(hx:act.eval x= .slice (some ⟨w.heap.size,0,none⟩) 1 1):
  ∃a' cap' w',(execOp act.eval o).run P (w.alloc (.cells cs.toArray e'))= .ok (.value (.slice a' (n+1) cap')) w'∧w'.ownsRow B e size (.slice a' (n+1) cap') (n+1) (xs++cs)∧w.grownBy w' (Value.slice a n cap).ownBlock∧kBe w (.slice a n cap) (.slice a' (n+1) cap'):=by
 obtain⟨i,hi,hz,h1,hb⟩:=info_parts el.inf
 have hcell:∀j v,cs[j]? =some v→(w.alloc (.cells cs.toArray e')).cell? ((⟨w.heap.size,0,none⟩:Addr).add j)=some v:=by
  intro j v hv;rw[Addr.add_lit,Nat.zero_add,jK (w.alloc (.cells cs.toArray e')) w.heap.size j cs.toArray e' (0,0) (jN w _)]
  simpa using hv
 obtain⟨v',w',hr,h2,h3,h4⟩:=kGp (P:=P) (w.alloc (.cells cs.toArray e')) B t o.type e i z size bytes el.und hi hz h1 hb el.sz el.pos _ n xs (World.ownsRow.alloc hown _) ⟨w.heap.size,0,none⟩ 1 1 cs (by simp[hcs]) hcell hu (by simp only[maxLen];omega) hn (by simp;omega)
 have hv':∃a' cap',v'= .slice a' (n+1) cap':=by
  rcases h2.2 with⟨rfl,h0⟩ | ⟨g,cap',cur,rfl,_⟩
  ·omega
  ·exact⟨_,_,rfl⟩
 obtain⟨a',cap',rfl⟩:=hv'
 refine⟨a',cap',w',?_,h2,?_,?_⟩
 ·unfold execOp;simp only[ho,resolve,invoke,builtin,Sem.run_bind,Sem.run_pure,Result.andThen_ok,List.map_toArray,List.map_cons,List.map_nil,hs,hx,hr]
 ·refine⟨h3.os,h3.tape,h3.output,by have:=h3.size;simp at this;omega,fun k hk hne=> ?_⟩;rw[h3.block k (by simp;omega) hne];exact Below.heap_alloc w _ k hk
 ·rcases h4 with h4 | ⟨g,h4,h5⟩
  ·exact .inl h4
  ·exact .inr ⟨g,h4,by simp at h5;omega⟩
theorem kAy {w w':World}{row:Option Nat}(hg:w.grownBy w' row){b o:Nat}{v:Value}(hc:w.cell? ⟨b,o,none⟩=some v)(hr:∀k,row=some k→b≠k):w'.cell? ⟨b,o,none⟩=some v:=by
 rw[World.cell?_of_block (w:=w) (a:=⟨b,o,none⟩) (kAt hg (World.block_lt_of_cell? w _ hc) hr)];exact hc
theorem kBs {w w':World}{row:Option Nat}(hg:w.grownBy w' row){b o:Nat}{cs:List Value}(hc:w.rangeAt b o cs)(hr:∀k,row=some k→b≠k):w'.rangeAt b o cs:=
 fun j v hv=>kAy hg (hc j v hv) hr
theorem kBm {w:World}{b o:Nat}{v:Value}(hc:w.cell? ⟨b,o,none⟩=some v)(ob:Obj):(w.alloc ob).cell? ⟨b,o,none⟩=some v:=by
 rw[World.cell?_of_block (w:=w) (a:=⟨b,o,none⟩) (Below.heap_alloc w ob b (World.block_lt_of_cell? w _ hc))];exact hc
theorem kSa (cs:List Value):∀(k:Nat) (z:Array Value) (i:Nat),((cs.zipIdx k).foldl (fun cs x=>cs.setIfInBounds x.snd x.fst) z)[i]? =if k≤i∧i<k+cs.length∧i<z.size then cs[i - k]? else z[i]? :=by
 induction cs with
 | nil=>intro k z i;simp;intro h1 h2;omega
 | cons c cs ih=>
  intro k z i;rw[List.zipIdx_cons,List.foldl_cons,ih];simp only[Array.size_setIfInBounds,List.length_cons,Array.getElem?_setIfInBounds]
  by_cases h1:k=i
  ·subst h1;rw[if_neg (by omega),if_pos rfl]
   by_cases h2:k<z.size
   ·rw[if_pos h2,if_pos (by omega)];simp
   ·rw[if_neg h2,if_neg (by omega)];simp;omega
  ·rw[if_neg h1]
   by_cases h2:k+1≤i∧i<k+1+cs.length∧i<z.size
   ·rw[if_pos h2,if_pos (by omega)];rw[show i - k=(i - (k+1))+1 by omega];simp
   ·rw[if_neg h2,if_neg (by omega)]
theorem kE6 (cs:List Value)(z:Array Value)(h:z.size=cs.length):cs.zipIdx.foldl (fun cs x=>cs.setIfInBounds x.snd x.fst) z=cs.toArray:=by
 apply Array.ext_getElem?
 intro i;rw[kSa]
 by_cases hi:i<cs.length
 ·rw[if_pos (by omega)];simp
 ·rw[if_neg (by omega),Array.getElem?_eq_none (by omega),Array.getElem?_eq_none (by simp;omega)]
theorem kE3 {F:Fence}{nF:Nat}{P:Program}{md:Region.Mode}{ops:Array Oper}{Q:Exit→Act→World→Prop}{C:World→Prop}{M:List Nat}{i:Nat}{o:Oper}{f:Nat}{l:Array Bool}{act:Act}{t e:TypeId}{z:Value}{size bytes:Nat}(el:kFh P t e z size bytes){w:World}(hr:Region.ready md ops l=[i])(hi:ops[i]? =some o)(hc:kCl o=true)
  (hwt:Region.wanted o (yielded ops act.tmps)=true)(s x:Operand)
  (ho:o.op= .call {callee:= .builtin .append,args:= #[s,x],argTypes:= #[t,t]}){B:Nat}{a:Option Addr}{n cap:Nat}{xs:List Value}(hown:w.ownsRow B e size (.slice a n cap) n xs)(hn:(n+1)*bytes≤140737488355328)(hm:n<140737488355328)(hB:B≤w.heap.size)(cs:List Value)(hcs:cs.length=size)(hu:∀u∈cs,u.oneCell'=true)(e':TypeId)
  (hs:act.eval s= .slice a n cap)(hx:act.eval x= .slice (some ⟨w.heap.size,0,none⟩) 1 1)
  (hC:∀w',w.grownBy w' (Value.slice a n cap).ownBlock→C w')
  (h:∀a' cap' w',w'.ownsRow B e size (.slice a' (n+1) cap') (n+1) (xs++cs)→w.grownBy w' (Value.slice a n cap).ownBlock→kBe w (.slice a n cap) (.slice a' (n+1) cap')→kF9 F nF P md ops Q M C f (l.setIfInBounds i true) (act.put o.dst (.slice a' (n+1) cap')) w'):
  kF9 F nF P md ops Q M C (f+1) l act (w.alloc (.cells cs.toArray e')):=by
 obtain⟨a',cap',w',h1,h2,h3,h4⟩:=kQe el s x ho hown hn hm hB cs hcs hu e' hs hx;exact kDp hr hi hc hwt h1 (hC w' h3) (h a' cap' w' h2 h3 h4)
theorem kAv {B:Nat}{w w':World}{row:Option Nat}(hg:w.grownBy w' row)(hr:∀k,row=some k→B≤k)(hB:B≤w.heap.size):Below B w w':=
 ⟨hg.os,hg.tape,hg.output,hg.size,fun k hk=>hg.block k (by omega) (fun e=>by have:=hr k e.symm;omega)⟩
theorem kHt {B:Nat}(w:World)(b:Nat)(o:Obj)(hB:B≤b):Below B w (kHe w b o):=
 ⟨rfl,rfl,rfl,by simp[kHe],fun k hk=>kB8 w o (by omega)⟩
theorem kAc {P:Program}{ops:Array Oper}{w w':World}{Q:Exit→Act→World→Prop}{rest:List Oper}{o:Oper}{a:Act}{v:Value}(hg:o.guard=none)(hr:(execOp a.eval o).run P w= .ok (.value v) w')(h:wpList P ops Q rest (a.put o.dst v) w'):wpList P ops Q (o :: rest) a w:=
 wpList_plain hg fun K hK=>by
  unfold Oper.wp;rw[hr];exact hK _ _ h
def ob (a:Option Addr):Option Nat:=(Value.slice a 0 0).ownBlock
theorem kA8 (a:Option Addr)(n c:Nat):(Value.slice a n c).ownBlock=ob a:=by cases a<;>rfl
structure kB2 (g:Nat) (w w':World) (a l a' l':Option Addr):Prop where
 os:w'.os=w.os
 tape:w'.tape=w.tape
 output:w'.output=w.output
 size:w.heap.size≤w'.heap.size
 oth:∀k,k<w.heap.size→(k<g∨g+4≤k)→ob a≠some k→ob l≠some k→w'.heap[k]? =w.heap[k]?
 na:∀k,ob a'=some k→ob a=some k∨w.heap.size≤k
 nl:∀k,ob l'=some k→ob l=some k∨w.heap.size≤k
theorem kB2.trans {g:Nat}{w w1 w2:World}{a l a1 l1 a2 l2:Option Addr}(h:kB2 g w w1 a l a1 l1)(k:kB2 g w1 w2 a1 l1 a2 l2):kB2 g w w2 a l a2 l2:=by
 have hs:=h.size
 refine⟨k.os.trans h.os,k.tape.trans h.tape,k.output.trans h.output,Nat.le_trans hs k.size,fun i hi hg ha hl=> ?_,fun i hi=> ?_,fun i hi=> ?_⟩
 ·refine(k.oth i (by omega) hg (fun e=> ?_) (fun e=> ?_)).trans (h.oth i hi hg ha hl)
  ·rcases h.na i e with h1 | h1
   ·exact ha h1
   ·omega
  ·rcases h.nl i e with h1 | h1
   ·exact hl h1
   ·omega
 ·rcases k.na i hi with h1 | h1
  ·exact h.na i h1
  ·exact .inr (by omega)
 ·rcases k.nl i hi with h1 | h1
  ·exact h.nl i h1
  ·exact .inr (by omega)
theorem kB2.below {g:Nat}{w w':World}(a l:Option Addr)(h:Below w.heap.size w w'):kB2 g w w' a l a l:=⟨h.os,h.tape,h.output,h.size,fun k hk _ _ _=>h.block k hk,fun _ h=> .inl h,fun _ h=> .inl h⟩
theorem kB2.drew {g:Nat}{w w':World}{a l a' l':Option Addr}(h:kB2 g w w' a l a' l'):kB2 g w w'.drew a l a' l':=⟨h.os,h.tape,h.output,h.size,h.oth,h.na,h.nl⟩
theorem kB2.store {g:Nat}{w w':World}{a l a' l':Option Addr}(h:kB2 g w w' a l a' l')(b o:Nat)(v:Value)(hb:g≤b∧b<g+4):kB2 g w (w'.setCell ⟨b,o,none⟩ v) a l a' l':=
 ⟨(kAd w' b o v).os.trans h.os,(kAd w' b o v).tape.trans h.tape,(kAd w' b o v).output.trans h.output,Nat.le_trans h.size (kAd w' b o v).size,fun k hk hg ha hl=>by rw[jQ w' ⟨b,o,none⟩ k v (by simp;omega)];exact h.oth k hk hg ha hl,h.na,h.nl⟩
theorem kB2.put {g:Nat}{w w':World}{a l a' l':Option Addr}(h:kB2 g w w' a l a' l')(b:Nat)(o:Obj)(hb:g≤b∧b<g+4):kB2 g w (kHe w' b o) a l a' l':=
 ⟨h.os,h.tape,h.output,by simpa [kHe]using h.size,fun k hk hg ha hl=>by rw[kB8 w' o (by omega)];exact h.oth k hk hg ha hl,h.na,h.nl⟩
theorem kB2.low {g:Nat}{w w':World}(a:Option Addr){l l':Option Addr}{n c n' c':Nat}(hg:w.grownBy w' (Value.slice l n c).ownBlock)(hn:kBe w (.slice l n c) (.slice l' n' c')):kB2 g w w' a l a l':=by
 unfold kBe at hn;rw[kA8,kA8]at hn;rw[kA8]at hg;refine⟨hg.os,hg.tape,hg.output,hg.size,fun k hk _ _ hl=>hg.block k hk (fun e=>hl e.symm),fun _ h=> .inl h,fun k h=> ?_⟩
 rcases hn with h1 | ⟨gg,h1,h2⟩
 ·exact .inl (by rw[←h1];exact h)
 ·rw[h1]at h;cases h;exact .inr h2
theorem kB2.mid {g:Nat}{w w':World}{a a':Option Addr}(l:Option Addr){n c n' c':Nat}(hg:w.grownBy w' (Value.slice a n c).ownBlock)(hn:kBe w (.slice a n c) (.slice a' n' c')):kB2 g w w' a l a' l:=by
 unfold kBe at hn;rw[kA8,kA8]at hn;rw[kA8]at hg;refine⟨hg.os,hg.tape,hg.output,hg.size,fun k hk _ ha _=>hg.block k hk (fun e=>ha e.symm),fun k h=> ?_,fun _ h=> .inl h⟩
 rcases hn with h1 | ⟨gg,h1,h2⟩
 ·exact .inl (by rw[←h1];exact h)
 ·rw[h1]at h;cases h;exact .inr h2
theorem kB2.to_below {g:Nat}{w w':World}{a l a' l':Option Addr}(h:kB2 g w w' a l a' l')(ha:∀k,ob a=some k→g≤k)(hl:∀k,ob l=some k→g≤k)(hg:g≤w.heap.size):Below g w w':=
 ⟨h.os,h.tape,h.output,h.size,fun k hk=>h.oth k (by omega) (.inl hk) (fun e=>by have:=ha k e;omega) (fun e=>by have:=hl k e;omega)⟩
theorem kA0 (b:List Int):kAh val8 b=b.map val8:=by
 induction b with
 | nil=>rfl
 | cons a l ih=>rw[kAh,List.flatMap_cons,←kAh,ih,kBz];rfl
end Go.Proofs.YtbmphakfgoompaaGreat
