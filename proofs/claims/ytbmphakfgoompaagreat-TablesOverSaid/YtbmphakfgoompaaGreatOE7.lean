/- several texts in one: UE7 -/
import Derived.Test.YtbmphakfgoompaaGreatOE5
import Derived.Deep.CutBlock
set_option linter.unusedVariables false
set_option linter.unusedSimpArgs false
set_option maxRecDepth 100000
set_option maxHeartbeats 16000000
namespace Go.Proofs.YtbmphakfgoompaaGreat
open Go.RowKit
attribute [local go_sem] Oper.semAt_some
theorem kSv {b:Nat}{w:World}{f:Nat→Int}{ty:TypeId}(h:w.heap[b]? =some (.cells #[.int .i64 (f 0),.int .i64 (f 1),.int .i64 (f 2),.int .i64 (f 3)] ty (0,0))){k:Nat}(hk:k<4):w.cell? ⟨b,k,none⟩=some (.int .i64 (f k)):=by
 have:=jK w b k _ _ (0,0) h
 have hc:k=0∨k=1∨k=2∨k=3:=by omega
 rcases hc with rfl | rfl | rfl | rfl<;>exact this
def kTg (w:World) (D:kAs) (e:Ending) (w':World):Prop:=
 Below w.heap.size w w'∧∃fv bv,e= .returned (.tuple #[fv,.int .i32 bv])∧kGc (kHs D) 1114112 bv∧kBf w' fv (fvs D)
def FuR (w1:World) (bl:Nat) (D:kAs) (E:List Nat) (iv bv:Value) (wr:World):Prop:=
 ∃(i:Nat) (v:Int) (A:Nat→Option Addr) (C:Nat→Nat),i≤E.length∧iv= .int .i64 (i:Nat)∧bv= .int .i32 v∧kGc (kHs D) (nxI E i) v∧kDm (bl+1) wr bl A C (fun j=>kEf (fvs D j) E i)∧Below w1.heap.size w1 wr
def FkR (w1:World) (bl b9:Nat) (D:kAs) (E:List Nat) (i x:Nat) (v0:Int) (kv bv:Value) (wr:World):Prop:=
 ∃(k:Nat) (v:Int) (A:Nat→Option Addr) (C:Nat→Nat),k≤4∧kv= .int .i64 (k:Nat)∧bv= .int .i32 v∧FkB D x v0 k v∧kDm (bl+1) wr bl A C (RS D E i k)∧
  wr.heap[b9]? =some (.cells #[.int .i64 (fvs D 0 x),.int .i64 (fvs D 1 x),.int .i64 (fvs D 2 x),.int .i64 (fvs D 3 x)] 85 (0,0))∧Below w1.heap.size w1 wr
theorem kDm.other {B bl:Nat}{w:World}{A:Nat→Option Addr}{C:Nat→Nat}{R:Nat→List kAr}(h:kDm B w bl A C R){b k:Nat}(hk:k<4){cs:Array Value}{z:Nat×Nat}(hb:w.heap[b]? =some (.cells cs 85 z)):(Value.slice (A k) (R k).length (C k)).ownBlock≠some b:=by
 intro e
 rcases(h.own k hk).2 with⟨e2,h0⟩ | ⟨g,cap',cur,e2,_,hg,_⟩
 ·rw[e2]at e;cases e
 ·rw[e2]at e;cases e;rw[hg]at hb;cases hb
theorem kDm.apart {B bl:Nat}{w:World}{A:Nat→Option Addr}{C:Nat→Nat}{R:Nat→List kAr}(h:kDm B w bl A C R){b:Nat}{cs:Array Value}{z:Nat×Nat}(hb:w.heap[b]? =some (.cells cs 85 z)):b≠bl:=by
 intro e;rw[e,h.box]at hb;cases hb
def kEg (cs:Array Value):Prop:=∀(i:Nat) (v:Value),cs[i]? =some v→∀k z,v≠ .int k z
theorem kEg.set {cs:Array Value}(h:kEg cs)(j:Nat){u:Value}(hu:∀k z,u≠ .int k z):kEg (cs.setIfInBounds j u):=by
 intro i v hv;rw[Array.getElem?_setIfInBounds]at hv
 split at hv
 ·split at hv
  ·cases hv;exact hu
  ·cases hv
 ·exact h i v hv
theorem Ints.boxN {k:IntKind}{w:World}{bf:Nat}{cs:Array Value}{ty:TypeId}{a:Option Addr}{zs:List Int}(h:Ints k w a zs)(hx:w.heap[bf]? =Option.some (.cells cs ty (0,0)))(hn:kEg cs)(j:Nat)(u:Value):Ints k (w.setCell ⟨bf,j,none⟩ u) a zs:=by
 intro i hi;obtain⟨b,o,e,hc⟩:=h i hi;refine⟨b,o,e,?_⟩
 have hb:b≠bf:=by
  intro hb;subst hb;rw[jK w b (o+i) _ _ (0,0) hx]at hc;exact hn _ _ hc _ _ rfl
 rw[World.cell?_of_block (w:=w) (a:=⟨b,o+i,none⟩) (jQ w ⟨bf,j,none⟩ b _ hb)];exact hc
theorem kC0.boxN {w:World}{bf:Nat}{cs:Array Value}{ty:TypeId}{fv:Value}{L:List (Int×Int)}(h:kC0 w fv L)(hx:w.heap[bf]? =some (.cells cs ty (0,0)))(hn:kEg cs)(j:Nat)(u:Value):kC0 (w.setCell ⟨bf,j,none⟩ u) fv L:=by
 obtain⟨aT,cT,aV,cV,h1,h2,h3,h4,h5⟩:=h;exact⟨aT,cT,aV,cV,h1,h2.boxN hx hn j u,h3.boxN hx hn j u,h4,h5⟩
def kM5 (B:Nat) (w:World) (fv:Value) (L:List (Int×Int)):Prop:=kC0 w fv L∧kLz B fv
theorem kM5.below {B:Nat}{w w':World}{fv:Value}{L:List (Int×Int)}(h:kM5 B w fv L)(hb:Below w.heap.size w w'):kM5 B w' fv L:=⟨h.1.below hb,h.2⟩
theorem kM5.mono {B B':Nat}{w:World}{fv:Value}{L:List (Int×Int)}(h:kM5 B w fv L)(hb:B'≤B):kM5 B' w fv L:=⟨h.1,h.2.mono hb⟩
theorem kM5.boxN {B:Nat}{w:World}{bf:Nat}{cs:Array Value}{ty:TypeId}{fv:Value}{L:List (Int×Int)}(h:kM5 B w fv L)(hx:w.heap[bf]? =some (.cells cs ty (0,0)))(hn:kEg cs)(j:Nat)(u:Value):kM5 B (w.setCell ⟨bf,j,none⟩ u) fv L:=⟨h.1.boxN hx hn j u,h.2⟩
def kTf (B:Nat) (e:Ending):Prop:=∃x0 x1 x2 x3 x4 x5 x6 x7 u,e= .returned (.tuple #[.agg #[x0,x1,x2,x3,x4,x5,x6,x7],u])∧kLz B (.agg #[x0,x1])∧kLz B (.agg #[x2,x3])∧kLz B (.agg #[x4,x5])∧kLz B (.agg #[x6,x7])
theorem kDm.set {B bl:Nat}{w:World}{A:Nat→Option Addr}{C:Nat→Nat}{R:Nat→List kAr}(h:kDm B w bl A C R){b:Nat}{cs:Array Value}{ty:TypeId}{z:Nat×Nat}(hb:w.heap[b]? =some (.cells cs ty z))(h1:ty≠88)(h2:ty≠84)(j:Nat)(u:Value):kDm B (w.setCell ⟨b,j,none⟩ u) bl A C R:=by
 have hne:b≠bl:=by
  intro e;rw[e,h.box]at hb;cases hb;exact h2 rfl
 refine⟨(jQ w ⟨b,j,none⟩ bl _ (fun e=>hne e.symm)).trans h.box,fun k hk=> ?_,h.ap,h.low⟩;refine World.ownsRow.kept (h.own k hk) (kAd w b j u) ?_
 cases e:(Value.slice (A k) (R k).length (C k)).ownBlock with
 | none=>exact .inl rfl
 | some g=>
  refine .inr (fun e3=> ?_);cases e3
  rcases(h.own k hk).2 with⟨e2,h0⟩ | ⟨g,cap',cur,e2,_,hg,_⟩
  ·rw[e2]at e;cases e
  ·rw[e2]at e;cases e;rw[hg]at hb;cases hb;exact h1 rfl
def FfR (w1:World) (bl b11:Nat) (D:kAs) (E:List Nat) (A:Nat→Option Addr) (C:Nat→Nat) (kv:Value) (wr:World):Prop:=
 ∃(k:Nat) (X:Nat→Value),k≤4∧kv= .int .i64 (k:Nat)∧wr.heap[b11]? =some (.cells #[X 0,X 1,X 2,X 3,X 4,X 5,X 6,X 7] 89 (0,0))∧(∀j,j<4→j<k→kM5 w1.heap.size wr (.agg #[X (2*j),X (2*j+1)]) (kAk (fvs D j) 1114112))∧(∀j,∃a n c,X j= .slice a n c)∧
  kDm (bl+1) wr bl A C (fun j=>kEf (fvs D j) E E.length)∧Below w1.heap.size w1 wr
theorem kMm {X:Nat→Value}(h:∀j,∃a n c,X j= .slice a n c):kEg #[X 0,X 1,X 2,X 3,X 4,X 5,X 6,X 7]:=by
 intro i v hv k z e
 have hc:∃j,v=X j:=by
  match i,hv with
  | 0,hv=>exact⟨0,by simpa using hv.symm⟩
  | 1,hv=>exact⟨1,by simpa using hv.symm⟩
  | 2,hv=>exact⟨2,by simpa using hv.symm⟩
  | 3,hv=>exact⟨3,by simpa using hv.symm⟩
  | 4,hv=>exact⟨4,by simpa using hv.symm⟩
  | 5,hv=>exact⟨5,by simpa using hv.symm⟩
  | 6,hv=>exact⟨6,by simpa using hv.symm⟩
  | 7,hv=>exact⟨7,by simpa using hv.symm⟩
  | (i+8),hv=>simp at hv
 obtain⟨j,rfl⟩:=hc;obtain⟨a,n,c,e2⟩:=h j;rw[e2]at e;cases e
theorem kOj {D:kAs}{E:List Nat}(hE:kD1 D E)(hw:kD2 D){w:World}{k:Nat}{e:Ending}{w':World}(h:kS8 w 0 (kEf (fvs D k) E E.length) e w'):Below w.heap.size w w'∧∃fv,e= .returned (.tuple #[fv,.int .i64 0,.int .i64 0])∧kM5 w.heap.size w' fv (kAk (fvs D k) 1114112):=by
 have hr:=hE.rise;have hok:=hr.okS (fvs D k)
 obtain⟨hb,fv,⟨i,h1,h2, -⟩ | ⟨-,i,h1,h2, -⟩ | ⟨-,h2,h3⟩⟩:=h
 ·exact absurd h2 (hok.1 i h1)
 ·exact absurd h2 (hok.2 i h1)
 ·refine⟨hb,fv,h2,?_⟩;rw[kKq 1114112 (fun r hrr=>(hr.gives (g:=fvs D k) (fun a r hr1 ha hn=>(hE.same hw hr1 ha hn).fvs k) (r:=r) (by omega)).symm)];exact h3
theorem kLo {g:Nat→Int}{E:List Nat}(h:kJ3 E):∀s∈kEf g E E.length, -2147483648≤s.f∧s.f≤2147483647∧ -2147483648≤s.t∧s.t≤2147483647:=by
 intro s hs;obtain⟨j,hj,hlt,rfl⟩:=kLn hs;have:=(h.nxt_le hj).2;simp only;omega
theorem kRk (w:World)(x y z:Value)(E:TypeId)(j:Nat)(v:Value)(h:[x,y,z][j]? =some v):(w.alloc (.cells #[x,y,z] E)).cell? ⟨w.heap.size,j,none⟩=some v:=by
 rw[jK _ w.heap.size j _ _ (0,0) (jN w _)]
 simpa using h
theorem kJ7 (w:World)(pm:Nat)(D:kAs)(h:kFi w pm D)(hwf:kD2 D)(hE8:(kCq D).length≤1048576):
  Calls Tryz.prog 8 #[.pointer (some ⟨pm,0,none⟩)] w fun e w'=>kTg w D e w'∧kTf w.heap.size e:=by
 have HM:=jH (fun(W:World) (hb:Below w.heap.size w W)=>h.below hb);have HWf:=jH hwf;have HE8:=jH hE8;have HA:=jH (jN w (.cells #[.slice none 0 0,.slice none 0 0,.slice none 0 0,.slice none 0 0,.slice none 0 0,.slice none 0 0,.slice none 0 0,.slice none 0 0] 37));have HB:=jH ((Below.refl _ w).alloc jR (.cells #[.slice none 0 0,.slice none 0 0,.slice none 0 0,.slice none 0 0,.slice none 0 0,.slice none 0 0,.slice none 0 0,.slice none 0 0] 37));clear h hwf hE8
 go_enter Tryz.func8,Tryz.ntmps8
 go_upto_region 1 with(fail)
 obtain⟨b2,hb2⟩:∃b2,b2=w.heap.size:=⟨_,rfl⟩
 rw[←hb2]at HA ⊢;have Hb2:=jH hb2;clear hb2;generalize w.alloc (.cells #[.slice none 0 0,.slice none 0 0,.slice none 0 0,.slice none 0 0,.slice none 0 0,.slice none 0 0,.slice none 0 0,.slice none 0 0] 37)=w0 at*
 go_wp2_with fail
 refine(kO3 w0 pm D (HM.out _ HB.out)).mono ?_;rintro e w1 ⟨hb,aE,cE,E,rfl,hE,hI⟩;have HB1:=jH (HB.out.trans (hb.mono HB.out.size));have HA1:=jH ((hb.block b2 (jL HA.out)).trans HA.out);have HEd:Hid (kD1 D E):=jH ⟨hE.sorted,hE.mem⟩;have HRi:=jH HEd.out.rise;have hEl:E.length≤1048576:=Nat.le_trans hE.len HE8.out;have HI:=jH hI
 obtain⟨n,hn⟩:∃n,n=E.length:=⟨_,rfl⟩
 have Hn:=jH hn;rw[←hn]at hEl ⊢;have HnE:=jH (show(kA2 E).length=n by rw[kA6];exact hn.symm);clear hb HA HB hE hI hn;have HL:=jH (jN w1 (.cells #[.slice none 0 0,.slice none 0 0,.slice none 0 0,.slice none 0 0] 84));have HBl:=jH ((Below.refl _ w1).alloc jR (.cells #[.slice none 0 0,.slice none 0 0,.slice none 0 0,.slice none 0 0] 84))
 go_upto_region 3 with(fail)
 obtain⟨bl,hbl⟩:∃bl,bl=w1.heap.size:=⟨_,rfl⟩
 rw[←hbl]at HL ⊢;generalize w1.alloc (.cells #[.slice none 0 0,.slice none 0 0,.slice none 0 0,.slice none 0 0] 84)=w2 at*;have HR0:Hid (kDm (bl+1) w2 bl (fun _=>none) (fun _=>0) (fun j=>kEf (fvs D j) E 0)):=jH ⟨HL.out,fun j hj=>World.ownsRow_nil w2 _ _ 3,fun i j _ _ _ g e=>(by cases e),by omega⟩;have Hbl:=jH hbl;clear hbl HL
 have hn0:=HRi.out.first.1
 go_wp2
 go_loopw [7,6] (FuR w1 bl D E) (fun i _ _=>n - (intOf i).toNat)
 case atStart=>exact⟨0, -1,_,_,Nat.zero_le _,rfl,rfl,.inl ⟨rfl,fun r hr=>by rw[nxI,if_pos HRi.out.first.1,HRi.out.first.2]at hr;omega⟩,HR0.out,HBl.out⟩
 case round=>
  clear HR0 HBl;obtain⟨i,v,A,C,hi,rfl,rfl,hbad,hrow,hbel⟩:=hrel
  have HBad:=jH hbad;have HRow:=jH hrow;have HBe:=jH hbel
  clear hbad hrow hbel;rw[←Hn.out]at hi
  by_cases hin:i<n
  ·have hii:(i:Int)<(n:Int):=by omega
   obtain⟨bE,oE,e1⟩:=HI.out.some (by rw[HnE.out];omega);subst e1
   have HCe:=jH (fun(W:World) (hb:Below w1.heap.size w1 W) (j:Nat) (hj:j<n)=>(show W.cell? ⟨bE,oE+j,none⟩=some (.int .i32 (E.getD j 0:Nat))from by
    have hl:j<(kA2 E).length:=by rw[HnE.out];exact hj
    rw[(HI.out.below hb jR).get j hl]
    have:j<E.length:=by rw[←Hn.out];exact hj
    simp[kA2,this]))
   have hx1:=HRi.out.top (j:=i) (by rw[←Hn.out];exact hin);have hp:=HRi.out.nxt_le (j:=i) (by rw[←Hn.out];exact hin);have HNo:=jH (fun r hr=>HRi.out.noEdge (j:=i) (r:=r) (by rw[←Hn.out];exact hin) hr);have HSg:=jH (fun j=>(show kEf (fvs D j) E (i+1)=kEf (fvs D j) E i++kIr (fvs D j) E i from kHj _ _ _));have HSl:=jH (fun j=>kF2 (fvs D j) E i);have HNx:=jH (show nxI E i=E.getD i 0 from if_pos (by rw[←Hn.out];exact hin));have HNy:=jH (show nxI E (i+1)=nxt E i from rfl);have HNe:=jH (show nxt E i=if i+1<n then E.getD (i+1) 0 else 1114112 by rw[Hn.out];rfl);have HSa:=jH (fun j=>(show kIr (fvs D j) E i=if nxt E i≤E.getD i 0 then []else [⟨(E.getD i 0:Nat),(nxt E i:Int) - 1,fvs D j (E.getD i 0)⟩]from rfl));have hcx:=HCe.out wr HBe.out i hin;have hcy:=HCe.out wr HBe.out (i+1)
   have hy1:=fun(h:i+1<n)=>HRi.out.top (j:=i+1) (by rw[←Hn.out];exact h)
   obtain⟨x,hx⟩:∃x,x=E.getD i 0:=⟨_,rfl⟩
   obtain⟨p,hpp⟩:∃p,p=nxt E i:=⟨_,rfl⟩
   obtain⟨y,hy⟩:∃y,y=E.getD (i+1) 0:=⟨_,rfl⟩
   rw[←hx]at hcx hx1 hp HNo HNx HSa;rw[←hpp]at hp HNo HNy HNe HSa;rw[←hy]at hcy hy1 HNe;have HXe:=jH hx;clear hx hpp hy
   obtain⟨bb,hbb⟩:∃bb,bb=decide (i+1<n):=⟨_,rfl⟩
   have HBb:=jH hbb;clear hbb
   go_upto_region 8 with(fail)
   go_cut [25]from 21 to 25 (fun v wx=>v= .bool bb∧wx=wr)
   case first=>
    clear hcx hcy
    by_cases h1:i+1<n
    ·have HD:=jH (HBb.out.trans (decide_eq_true h1))
     have h2:(i:Int)+1<(n:Int):=by omega
     go_wp2
     go_meet
     case rel=>exact⟨by rw[HD.out],rfl⟩
    ·have HD:=jH (HBb.out.trans (decide_eq_false h1))
     have h2:¬(i:Int)+1<(n:Int):=by omega
     go_wp2
     go_meet
     case rel=>exact⟨by rw[HD.out],rfl⟩
   case rest=>
   obtain⟨rfl,rfl⟩:=hcut
   go_step
   go_cut [8]from 26 to 31 (fun v wy=>v= .int .i32 ((p:Nat) - 1)∧wy=wc)
   case first=>
    clear hcx
    cases bb
    ·have h1:=of_decide_eq_false HBb.out.symm;have HD:=jH (show((p:Nat):Int) - 1=1114111 by rw[HNe.out,if_neg h1];rfl);clear hcy h1;go_wp2
     go_meet
     case rel=>exact⟨by rw[HD.out],rfl⟩
    ·have h1:=of_decide_eq_true HBb.out.symm;have HD:=jH (show p=y by rw[HNe.out,if_pos h1]);have hcy:=hcy h1;have hy1:=hy1 h1
     have h2:(i:Int)+1<(n:Int):=by omega
     rw[show oE+(i+1)=oE+i+1 by omega]at hcy;go_wp2
     go_meet
     case rel=>exact⟨by rw[HD.out],rfl⟩
   case rest=>
   obtain⟨rfl,rfl⟩:=hcut;clear hcy hy1 HNe HBb
   by_cases hps:p≤x
   ·have h1:((p:Nat):Int) - 1<(x:Int):=by omega
    have HR1:Hid (kDm (bl+1) wc bl A C (fun j=>kEf (fvs D j) E (i+1))):=jH (by
     have e:(fun j=>kEf (fvs D j) E (i+1))=(fun j=>kEf (fvs D j) E i):=by
      funext j
      rw[HSg.out j,HSa.out j,if_pos hps,List.append_nil]
     rw[e];exact HRow.out)
    have HBd:Hid (kGc (kHs D) (nxI E (i+1)) v):=jH (HBad.out.skip (by rw[HNx.out,HNy.out];exact hps));go_wp2
    go_roundw
    case rel=>exact⟨i+1,v,A,C,by rw[←Hn.out];omega,by go_num,rfl,HBd.out,HR1.out,HBe.out⟩
    case measure=>simp[intOf];omega
   ·have h1:¬((p:Nat):Int) - 1<(x:Int):=by omega
    have HSn:Hid (∀j,kIr (fvs D j) E i=[⟨(x:Nat),(p:Nat) - 1,fvs D j x⟩]):=jH (fun j=>by rw[HSa.out j,if_neg hps]);have HV:=jH (kQm wc pm D (HM.out _ (HB1.out.trans (HBe.out.mono HB1.out.size))) x hx1 (HWf.out.val x hx1));have HBadN:Hid (kGc (kHs D) x v):=jH (by have:=HBad.out;rw[HNx.out]at this;exact this)
    have HSm:Hid (∀r,x≤r→r<p→kHs D r=kHs D x):=jH (fun r h1 h2=>by
     have hs:=HEd.out.same HWf.out (a:=x) (r:=r) (by omega) h1 (HNo.out r h2);unfold kHs
     rw[hs.fvs 0,hs.fvs 1,hs.fvs 2,hs.fvs 3])
    clear HBad HSg HSa HNo
    go_wp2_with fail
    refine HV.out.mono ?_;rintro e w5 ⟨rfl,hb⟩;clear HV hcx;have HB5:=jH (HBe.out.trans (hb.mono HBe.out.size));have HR5:=jH (HRow.out.below hb);clear hb HRow HBe;have H9:=jH (jN w5 (.cells #[.int .i64 (fvs D 0 x),.int .i64 (fvs D 1 x),.int .i64 (fvs D 2 x),.int .i64 (fvs D 3 x)] 85));have HB6:=jH (HB5.out.alloc HB5.out.size (.cells #[.int .i64 (fvs D 0 x),.int .i64 (fvs D 1 x),.int .i64 (fvs D 2 x),.int .i64 (fvs D 3 x)] 85));have HR6:=jH (HR5.out.below ((Below.refl _ w5).alloc jR (.cells #[.int .i64 (fvs D 0 x),.int .i64 (fvs D 1 x),.int .i64 (fvs D 2 x),.int .i64 (fvs D 3 x)] 85)));clear HB5 HR5
    go_upto_region 12 with(fail)
    obtain⟨b9,hb9⟩:∃b9,b9=w5.heap.size:=⟨_,rfl⟩
    rw[←hb9]at H9 ⊢;clear hb9;generalize w5.alloc (.cells #[.int .i64 (fvs D 0 x),.int .i64 (fvs D 1 x),.int .i64 (fvs D 2 x),.int .i64 (fvs D 3 x)] 85)=w6 at*;have HRz:Hid (kDm (bl+1) w6 bl A C (RS D E i 0)):=jH (by rw[kTi];exact HR6.out);clear HR6;go_wp2
    go_loopw [10,6] (FkR w1 bl b9 D E i x v) (fun k _ _=>4 - (intOf k).toNat)
    case atStart=>exact⟨0,v,A,C,by omega,rfl,rfl,by
     by_cases hv:0≤v
     ·exact .inl ⟨hv,rfl⟩
     ·refine .inr ⟨by omega,.inl ⟨?_,fun j hj=>by omega⟩⟩
      rcases HBadN.out with⟨h3, -⟩ | ⟨r,h3, -⟩<;>omega,HRz.out,H9.out,HB6.out⟩
    case round=>
     clear HRz H9 HB6;obtain⟨k,u,A2,C2,hk,rfl,rfl,hfk,hrow,h9,hbel⟩:=hrel
     have HFk:=jH hfk;have HRow:=jH hrow;have H9:=jH h9;have HBe:=jH hbel
     by_cases hk4:k<4
     ·have hki:(k:Int)<4:=by omega
      have hcx:=HCe.out wr hbel i hin;rw[←HXe.out]at hcx;have hcv:wr.cell? ⟨b9,k,none⟩=some (.int .i64 (fvs D k x)):=kSv (f:=fun j=>fvs D j x) h9 hk4;have HFn:=jH hfk.next;have HSk:=HSn.out k;have HRn:=jH (fun s h=>kTh (D:=D) (E:=E) (i:=i) (k:=k) (s:=s) h)
      have hRl:(RS D E i k k).length≤1048576:=by
       rw[RS_at];have:=HSl.out k;omega
      have hcl:=hrow.cell hk4;have HOk:=jH (hrow.own k hk4);have HAl:=jH (fun(o:Obj)=>(World.cell?_of_block (w:=wr) (a:=⟨bl,k,none⟩) (Below.heap_alloc wr o bl (jL hrow.box))).trans hcl)
      have hsz:bl<wr.heap.size:=(jL hrow.box)
      obtain⟨z,hz⟩:∃z,z=fvs D k x:=⟨_,rfl⟩
      rw[←hz]at hcv HFn HSk;have HSg:=jH HSk
      obtain⟨R,hR⟩:∃R,R=RS D E i k k:=⟨_,rfl⟩
      have HRe:=jH hR;rw[←hR]at hRl hcl HOk HAl;clear hfk hrow h9 hbel HSk hz hR
      obtain⟨u',hu'⟩:∃u':Int,u'=if z=nv∧u<0 then((x:Nat):Int)else u:=⟨_,rfl⟩
      rw[←hu']at HFn;have HU:=jH hu';clear hu'
      obtain⟨b3,hb3⟩:∃b3,b3=decide (z=nv∧u<0):=⟨_,rfl⟩
      have HB3:=jH hb3;clear hb3
      go_upto_block 3 with(fail)
      go_cut [6]from 48 to 75 (fun v wx=>v= .int .i32 u'∧∃A3 C3,kDm (bl+1) wx bl A3 C3 (RS D E i (k+1))∧wx.heap[b9]? =some (.cells #[.int .i64 (fvs D 0 x),.int .i64 (fvs D 1 x),.int .i64 (fvs D 2 x),.int .i64 (fvs D 3 x)] 85 (0,0))∧Below w1.heap.size w1 wx)
      case first=>
       go_upto_region 15 with(fail)
       go_cut [55]from 48 to 55 (fun v wx=>v= .bool b3∧wx=wr)
       case first=>
        by_cases y1:z=nv
        ·have hd:(z== -1099511627776)=true:=beq_iff_eq.2 y1
         by_cases y2:u<0
         ·have HD:=jH (HB3.out.trans (decide_eq_true ⟨y1,y2⟩));clear y1;go_wp2
          go_meet
          case rel=>exact⟨by rw[HD.out],rfl⟩
         ·have HD:=jH (HB3.out.trans (decide_eq_false (fun h=>y2 h.2)));clear y1;go_wp2
          go_meet
          case rel=>exact⟨by rw[HD.out],rfl⟩
        ·have hd:(z== -1099511627776)=false:=beq_false_of_ne y1;have HD:=jH (HB3.out.trans (decide_eq_false (fun h=>y1 h.1)));clear y1;go_wp2
         go_meet
         case rel=>exact⟨by rw[HD.out],rfl⟩
       case rest=>
       obtain⟨rfl,rfl⟩:=hcut
       go_step
       go_cut [6]from 56 to 59 (fun v wy=>v= .int .i32 u'∧wy=wc)
       case first=>
        cases b3
        ·have HD:=jH (HU.out.trans (if_neg (of_decide_eq_false HB3.out.symm)));go_wp2
         go_meet
         case rel=>exact⟨by rw[HD.out],rfl⟩
        ·have HD:=jH (HU.out.trans (if_pos (of_decide_eq_true HB3.out.symm)));go_wp2
         go_meet
         case rel=>exact⟨by rw[HD.out],rfl⟩
       case rest=>
       obtain⟨rfl,rfl⟩:=hcut;clear HB3 HU
       have hbnd1:(R.length+1)*16≤140737488355328:=by omega
       have hbnd2:R.length<140737488355328:=by omega
       have hclA:=HAl.out
       go_upto_region 17 with(fail)
       go_region_law (refine kJy Tryz.elemSpI rfl (.tmp 63) (.tmp 73) rfl (World.ownsRow.drew (World.ownsRow.alloc HOk.out _)) (by simp;omega) hbnd1 hbnd2 wc.heap.size [.int .i32 (x:Nat),.int .i32 ((p:Nat) - 1),.int .i64 z] rfl (fun j v hv=>by rw[show(wc.alloc _).drew.cell? ⟨wc.heap.size,j,none⟩=(wc.alloc _).cell? ⟨wc.heap.size,j,none⟩from rfl];exact kRk wc _ _ _ _ j v hv) (by intro u hu;simp at hu;rcases hu with rfl | rfl | rfl<;>rfl) rfl rfl ?_;intro a9 c9 w9 ho9 hg9 hn9;have hbl9:w9.heap[bl]? =wc.heap[bl]? :=(hg9.block bl (by simp;omega) (fun e=>by have:=(World.ownsRow.lt HOk.out bl e.symm).1;omega)).trans (Below.heap_alloc wc _ bl hsz);have k9:w9.cell? ⟨bl,k,none⟩=some (.slice (A2 k) R.length (C2 k)):=(World.cell?_of_block (w:=wc) (a:=⟨bl,k,none⟩) hbl9).trans hcl;have f9:w9.frozen? ⟨bl,k,none⟩=false:=jO w9 bl k _ _ (hbl9.trans HRow.out.box))
       all_goals
        have hba:=(Below.refl _ wc).alloc jR (.cells #[.int .i32 (x:Nat),.int .i32 ((p:Nat) - 1),.int .i64 z] 88);have hrd:=HRow.out.below hba.drew;have HP9:=jH (hrd.push hk4 ⟨(x:Nat),(p:Nat) - 1,z⟩ (by rw[←HRe.out];exact ho9) (by rw[←HRe.out];exact hg9) (by rw[←HRe.out];exact hn9));have hb9:=(hba.drew.block b9 (jL H9.out)).trans H9.out;have HQ9:=jH ((hg9.block b9 (jL hb9) (fun e=>hrd.other hk4 hb9 (by rw[←HRe.out];exact e.symm))).trans hb9);have HNe:=jH (HRow.out.apart H9.out);have HBw:Hid (Below w1.heap.size w1 w9):=jH (HBe.out.trans ((hba.drew.mono HBe.out.size).trans (kAv hg9 (fun y e=>by have:=(World.ownsRow.lt HOk.out y e).1;have:=Hbl.out;omega) (by have:=HBe.out.size;simp;omega))));clear ho9 hg9 hn9 hba hrd hb9 hbl9
        go_wp2_with fail
        go_meet
        case rel=>exact⟨rfl,_,_,by have:=HP9.out;rw[HRn.out _ (by rw[HSg.out])]at this;rw[←HRe.out]at this;exact this,(jQ _ ⟨bl,k,none⟩ b9 _ HNe.out).trans HQ9.out,HBw.out.setCell (p:=⟨bl,k,none⟩) (by show _≤bl;rw[Hbl.out];exact Nat.le_refl _) _⟩
      case rest=>
      obtain⟨rfl,A3,C3,hr3,h93,hb3⟩:=hcut
      have HR3:=jH hr3;have H93:=jH h93;have HB3:=jH hb3
      clear hr3 h93 hb3 hcl hcv hcx;go_wp2
      go_roundw
      case rel=>exact⟨k+1,u',A3,C3,by omega,by go_num,rfl,HFn.out,HR3.out,H93.out,HB3.out⟩
      case measure=>simp[intOf];omega
     ·obtain rfl:k=4:=by omega
      have hki:¬(4:Int)<4:=by omega
      have HR7:=jH (RS_end D E i HRow.out);have HBd:Hid (kGc (kHs D) (nxI E (i+1)) u):=jH (by rw[HNy.out];exact HFk.out.done HBadN.out hx1 HSm.out);clear hfk hrow h9 hbel;go_wp2
      go_roundw
      case rel=>exact⟨i+1,u,A2,C2,by rw[←Hn.out];omega,by go_num,rfl,HBd.out,HR7.out,HBe.out⟩
      case measure=>simp[intOf];omega
  ·have hii:¬(i:Int)<(n:Int):=by omega
   have hin2:i=n:=by omega
   have HBd:Hid (kGc (kHs D) 1114112 v):=jH (by have:=HBad.out;rw[nxI,if_neg (by rw[←Hn.out];omega)]at this;exact this);have HRw:Hid (kDm (bl+1) wr bl A C (fun j=>kEf (fvs D j) E E.length)):=jH (by have:=HRow.out;rw[hin2,Hn.out]at this;exact this);clear HBad HRow;have HT:=jH (jN wr (.cells #[.slice none 0 0,.slice none 0 0,.slice none 0 0,.slice none 0 0,.slice none 0 0,.slice none 0 0,.slice none 0 0,.slice none 0 0] 89));have HBt:=jH (HBe.out.alloc HBe.out.size (.cells #[.slice none 0 0,.slice none 0 0,.slice none 0 0,.slice none 0 0,.slice none 0 0,.slice none 0 0,.slice none 0 0,.slice none 0 0] 89));have HRt:=jH (HRw.out.below ((Below.refl _ wr).alloc jR (.cells #[.slice none 0 0,.slice none 0 0,.slice none 0 0,.slice none 0 0,.slice none 0 0,.slice none 0 0,.slice none 0 0,.slice none 0 0] 89)));clear HRw
   go_upto_region 19 with(fail)
   obtain⟨b11,hb11⟩:∃b11,b11=wr.heap.size:=⟨_,rfl⟩
   rw[←hb11]at HT ⊢;have HSz:=jH (show w1.heap.size≤b11 by rw[hb11];exact HBe.out.size);clear hb11 HBe;generalize wr.alloc (.cells #[.slice none 0 0,.slice none 0 0,.slice none 0 0,.slice none 0 0,.slice none 0 0,.slice none 0 0,.slice none 0 0,.slice none 0 0] 89)=w4 at*;go_wp2
   go_loopw [12] (FfR w1 bl b11 D E A C) (fun k _=>4 - (intOf k).toNat)
   case atStart=>exact⟨0,fun _=> .slice none 0 0,by omega,rfl,HT.out,fun j _ h=>by omega,fun j=>⟨_,_,_,rfl⟩,HRt.out,HBt.out⟩
   case round=>
    clear HT HRt HBt;obtain⟨k,X,hk,rfl,h11,hfn,hsl,hrow,hbel⟩:=hrel
    have H11:=jH h11;have HFn:=jH hfn;have HSl:=jH hsl;have HRow:=jH hrow;have HBe:=jH hbel
    have hc:k=0∨k=1∨k=2∨k=3∨k=4:=by omega
    clear h11 hfn hsl hbel hk
    rcases hc with rfl | rfl | rfl | rfl | rfl
    ·have hcl:=hrow.cell (show 0<4 by omega);have HBd:=jH (kC8 0 (A 0) (kEf (fvs D 0) E E.length).length (C 0) (kEf (fvs D 0) E E.length) wr rfl (by have:=kF2 (fvs D 0) E E.length;have:=Hn.out;omega) (kCe rfl (hrow.own 0 (by omega))) (kLo HRi.out));have HRf:=jH (fun e w' h=>kOj HEd.out HWf.out (w:=wr) (k:=0) (e:=e) (w':=w') h);clear hrow;generalize (kEf (fvs D 0) E E.length).length=ln at*
     go_wp2_with fail
     refine HBd.out.mono ?_;intro e w5 hp5;obtain⟨hb,fv,rfl,hf⟩:=HRf.out e w5 hp5;clear hp5 HBd HRf hcl;have hff:=hf;obtain⟨⟨aT,cT,aV,cV,rfl, -⟩, -⟩:=hff;have HF5:=jH (hf.mono HBe.out.size);have HB5:=jH (HBe.out.trans (hb.mono HBe.out.size));have HR5:=jH (HRow.out.below hb);have HO5:=jH (fun j h1 h2=>(HFn.out j h1 h2).below hb);have h11:=(hb.block b11 (jL H11.out)).trans H11.out;clear hf hb
     obtain⟨ln,hln⟩:∃ln,ln=(kAk (fvs D 0) 1114112).length:=⟨_,rfl⟩
     rw[←hln]at HF5 ⊢;have p0:=jK w5 b11 0 _ _ (0,0) h11;have p1:=jK w5 b11 1 _ _ (0,0) h11;have g0:=jO w5 b11 0 _ _ h11;have g1:=jO w5 b11 1 _ _ h11;simp at p0 p1;have hn0:=kMm HSl.out;have hn1:=hn0.set 0 (u:= .slice aT ln cT) (fun k z e=>by cases e);have y1:=jP w5 b11 0 _ _ (.slice aT ln cT) h11;have y2:=jP _ b11 1 _ _ (.slice aV ln cV) y1;have HY:=jH y2;have HKp:=jH (fun(f:Value) (L:List (Int×Int)) (h:kM5 w1.heap.size w5 f L)=>(h.boxN h11 hn0 0 (.slice aT ln cT)).boxN y1 hn1 1 (.slice aV ln cV));have HR6:=jH ((HR5.out.set h11 (by decide) (by decide) 0 (.slice aT ln cT)).set y1 (by decide) (by decide) 1 (.slice aV ln cV));have HB6:=jH ((HB5.out.setCell (p:=⟨b11,0,none⟩) HSz.out (.slice aT ln cT)).setCell (p:=⟨b11,1,none⟩) HSz.out (.slice aV ln cV));clear hn0 hn1 y1 y2 h11 HR5 HB5 hln;go_wp2
     go_roundw
     case rel=>exact⟨1,upd (upd X 0 (.slice aT ln cT)) 1 (.slice aV ln cV),by omega,by go_num,by rw[HY.out];rfl,fun j h1 h2=>by
      by_cases e:j=0
      ·subst e;exact HKp.out _ _ HF5.out
      ·have:=HKp.out _ _ (HO5.out j h1 (by omega));rw[show upd (upd X 0 (.slice aT ln cT)) 1 (.slice aV ln cV) (2*j)=X (2*j) by rw[kBr _ _ (by omega),kBr _ _ (by omega)],show upd (upd X 0 (.slice aT ln cT)) 1 (.slice aV ln cV) (2*j+1)=X (2*j+1) by rw[kBr _ _ (by omega),kBr _ _ (by omega)]]
       exact this,fun j=>by
      by_cases e1:j=1
      ·subst e1;exact⟨_,_,_,kFe _ _ _⟩
      ·by_cases e2:j=0
       ·subst e2;exact⟨_,_,_,(kBr _ _ e1).trans (kFe _ _ _)⟩
       ·rw[kBr _ _ e1,kBr _ _ e2];exact HSl.out j,HR6.out,HB6.out⟩
     case measure=>simp[intOf]
    ·have hcl:=hrow.cell (show 1<4 by omega);have HBd:=jH (kC8 0 (A 1) (kEf (fvs D 1) E E.length).length (C 1) (kEf (fvs D 1) E E.length) wr rfl (by have:=kF2 (fvs D 1) E E.length;have:=Hn.out;omega) (kCe rfl (hrow.own 1 (by omega))) (kLo HRi.out));have HRf:=jH (fun e w' h=>kOj HEd.out HWf.out (w:=wr) (k:=1) (e:=e) (w':=w') h);clear hrow;generalize (kEf (fvs D 1) E E.length).length=ln at*
     go_wp2_with fail
     refine HBd.out.mono ?_;intro e w5 hp5;obtain⟨hb,fv,rfl,hf⟩:=HRf.out e w5 hp5;clear hp5 HBd HRf hcl;have hff:=hf;obtain⟨⟨aT,cT,aV,cV,rfl, -⟩, -⟩:=hff;have HF5:=jH (hf.mono HBe.out.size);have HB5:=jH (HBe.out.trans (hb.mono HBe.out.size));have HR5:=jH (HRow.out.below hb);have HO5:=jH (fun j h1 h2=>(HFn.out j h1 h2).below hb);have h11:=(hb.block b11 (jL H11.out)).trans H11.out;clear hf hb
     obtain⟨ln,hln⟩:∃ln,ln=(kAk (fvs D 1) 1114112).length:=⟨_,rfl⟩
     rw[←hln]at HF5 ⊢;have p0:=jK w5 b11 2 _ _ (0,0) h11;have p1:=jK w5 b11 3 _ _ (0,0) h11;have g0:=jO w5 b11 2 _ _ h11;have g1:=jO w5 b11 3 _ _ h11;simp at p0 p1;have hn0:=kMm HSl.out;have hn1:=hn0.set 2 (u:= .slice aT ln cT) (fun k z e=>by cases e);have y1:=jP w5 b11 2 _ _ (.slice aT ln cT) h11;have y2:=jP _ b11 3 _ _ (.slice aV ln cV) y1;have HY:=jH y2;have HKp:=jH (fun(f:Value) (L:List (Int×Int)) (h:kM5 w1.heap.size w5 f L)=>(h.boxN h11 hn0 2 (.slice aT ln cT)).boxN y1 hn1 3 (.slice aV ln cV));have HR6:=jH ((HR5.out.set h11 (by decide) (by decide) 2 (.slice aT ln cT)).set y1 (by decide) (by decide) 3 (.slice aV ln cV));have HB6:=jH ((HB5.out.setCell (p:=⟨b11,2,none⟩) HSz.out (.slice aT ln cT)).setCell (p:=⟨b11,3,none⟩) HSz.out (.slice aV ln cV));clear hn0 hn1 y1 y2 h11 HR5 HB5 hln;go_wp2
     go_roundw
     case rel=>exact⟨2,upd (upd X 2 (.slice aT ln cT)) 3 (.slice aV ln cV),by omega,by go_num,by rw[HY.out];rfl,fun j h1 h2=>by
      by_cases e:j=1
      ·subst e;exact HKp.out _ _ HF5.out
      ·have:=HKp.out _ _ (HO5.out j h1 (by omega));rw[show upd (upd X 2 (.slice aT ln cT)) 3 (.slice aV ln cV) (2*j)=X (2*j) by rw[kBr _ _ (by omega),kBr _ _ (by omega)],show upd (upd X 2 (.slice aT ln cT)) 3 (.slice aV ln cV) (2*j+1)=X (2*j+1) by rw[kBr _ _ (by omega),kBr _ _ (by omega)]]
       exact this,fun j=>by
      by_cases e1:j=3
      ·subst e1;exact⟨_,_,_,kFe _ _ _⟩
      ·by_cases e2:j=2
       ·subst e2;exact⟨_,_,_,(kBr _ _ e1).trans (kFe _ _ _)⟩
       ·rw[kBr _ _ e1,kBr _ _ e2];exact HSl.out j,HR6.out,HB6.out⟩
     case measure=>simp[intOf]
    ·have hcl:=hrow.cell (show 2<4 by omega);have HBd:=jH (kC8 0 (A 2) (kEf (fvs D 2) E E.length).length (C 2) (kEf (fvs D 2) E E.length) wr rfl (by have:=kF2 (fvs D 2) E E.length;have:=Hn.out;omega) (kCe rfl (hrow.own 2 (by omega))) (kLo HRi.out));have HRf:=jH (fun e w' h=>kOj HEd.out HWf.out (w:=wr) (k:=2) (e:=e) (w':=w') h);clear hrow;generalize (kEf (fvs D 2) E E.length).length=ln at*
     go_wp2_with fail
     refine HBd.out.mono ?_;intro e w5 hp5;obtain⟨hb,fv,rfl,hf⟩:=HRf.out e w5 hp5;clear hp5 HBd HRf hcl;have hff:=hf;obtain⟨⟨aT,cT,aV,cV,rfl, -⟩, -⟩:=hff;have HF5:=jH (hf.mono HBe.out.size);have HB5:=jH (HBe.out.trans (hb.mono HBe.out.size));have HR5:=jH (HRow.out.below hb);have HO5:=jH (fun j h1 h2=>(HFn.out j h1 h2).below hb);have h11:=(hb.block b11 (jL H11.out)).trans H11.out;clear hf hb
     obtain⟨ln,hln⟩:∃ln,ln=(kAk (fvs D 2) 1114112).length:=⟨_,rfl⟩
     rw[←hln]at HF5 ⊢;have p0:=jK w5 b11 4 _ _ (0,0) h11;have p1:=jK w5 b11 5 _ _ (0,0) h11;have g0:=jO w5 b11 4 _ _ h11;have g1:=jO w5 b11 5 _ _ h11;simp at p0 p1;have hn0:=kMm HSl.out;have hn1:=hn0.set 4 (u:= .slice aT ln cT) (fun k z e=>by cases e);have y1:=jP w5 b11 4 _ _ (.slice aT ln cT) h11;have y2:=jP _ b11 5 _ _ (.slice aV ln cV) y1;have HY:=jH y2;have HKp:=jH (fun(f:Value) (L:List (Int×Int)) (h:kM5 w1.heap.size w5 f L)=>(h.boxN h11 hn0 4 (.slice aT ln cT)).boxN y1 hn1 5 (.slice aV ln cV));have HR6:=jH ((HR5.out.set h11 (by decide) (by decide) 4 (.slice aT ln cT)).set y1 (by decide) (by decide) 5 (.slice aV ln cV));have HB6:=jH ((HB5.out.setCell (p:=⟨b11,4,none⟩) HSz.out (.slice aT ln cT)).setCell (p:=⟨b11,5,none⟩) HSz.out (.slice aV ln cV));clear hn0 hn1 y1 y2 h11 HR5 HB5 hln;go_wp2
     go_roundw
     case rel=>exact⟨3,upd (upd X 4 (.slice aT ln cT)) 5 (.slice aV ln cV),by omega,by go_num,by rw[HY.out];rfl,fun j h1 h2=>by
      by_cases e:j=2
      ·subst e;exact HKp.out _ _ HF5.out
      ·have:=HKp.out _ _ (HO5.out j h1 (by omega));rw[show upd (upd X 4 (.slice aT ln cT)) 5 (.slice aV ln cV) (2*j)=X (2*j) by rw[kBr _ _ (by omega),kBr _ _ (by omega)],show upd (upd X 4 (.slice aT ln cT)) 5 (.slice aV ln cV) (2*j+1)=X (2*j+1) by rw[kBr _ _ (by omega),kBr _ _ (by omega)]]
       exact this,fun j=>by
      by_cases e1:j=5
      ·subst e1;exact⟨_,_,_,kFe _ _ _⟩
      ·by_cases e2:j=4
       ·subst e2;exact⟨_,_,_,(kBr _ _ e1).trans (kFe _ _ _)⟩
       ·rw[kBr _ _ e1,kBr _ _ e2];exact HSl.out j,HR6.out,HB6.out⟩
     case measure=>simp[intOf]
    ·have hcl:=hrow.cell (show 3<4 by omega);have HBd:=jH (kC8 0 (A 3) (kEf (fvs D 3) E E.length).length (C 3) (kEf (fvs D 3) E E.length) wr rfl (by have:=kF2 (fvs D 3) E E.length;have:=Hn.out;omega) (kCe rfl (hrow.own 3 (by omega))) (kLo HRi.out));have HRf:=jH (fun e w' h=>kOj HEd.out HWf.out (w:=wr) (k:=3) (e:=e) (w':=w') h);clear hrow;generalize (kEf (fvs D 3) E E.length).length=ln at*
     go_wp2_with fail
     refine HBd.out.mono ?_;intro e w5 hp5;obtain⟨hb,fv,rfl,hf⟩:=HRf.out e w5 hp5;clear hp5 HBd HRf hcl;have hff:=hf;obtain⟨⟨aT,cT,aV,cV,rfl, -⟩, -⟩:=hff;have HF5:=jH (hf.mono HBe.out.size);have HB5:=jH (HBe.out.trans (hb.mono HBe.out.size));have HR5:=jH (HRow.out.below hb);have HO5:=jH (fun j h1 h2=>(HFn.out j h1 h2).below hb);have h11:=(hb.block b11 (jL H11.out)).trans H11.out;clear hf hb
     obtain⟨ln,hln⟩:∃ln,ln=(kAk (fvs D 3) 1114112).length:=⟨_,rfl⟩
     rw[←hln]at HF5 ⊢;have p0:=jK w5 b11 6 _ _ (0,0) h11;have p1:=jK w5 b11 7 _ _ (0,0) h11;have g0:=jO w5 b11 6 _ _ h11;have g1:=jO w5 b11 7 _ _ h11;simp at p0 p1;have hn0:=kMm HSl.out;have hn1:=hn0.set 6 (u:= .slice aT ln cT) (fun k z e=>by cases e);have y1:=jP w5 b11 6 _ _ (.slice aT ln cT) h11;have y2:=jP _ b11 7 _ _ (.slice aV ln cV) y1;have HY:=jH y2;have HKp:=jH (fun(f:Value) (L:List (Int×Int)) (h:kM5 w1.heap.size w5 f L)=>(h.boxN h11 hn0 6 (.slice aT ln cT)).boxN y1 hn1 7 (.slice aV ln cV));have HR6:=jH ((HR5.out.set h11 (by decide) (by decide) 6 (.slice aT ln cT)).set y1 (by decide) (by decide) 7 (.slice aV ln cV));have HB6:=jH ((HB5.out.setCell (p:=⟨b11,6,none⟩) HSz.out (.slice aT ln cT)).setCell (p:=⟨b11,7,none⟩) HSz.out (.slice aV ln cV));clear hn0 hn1 y1 y2 h11 HR5 HB5 hln;go_wp2
     go_roundw
     case rel=>exact⟨4,upd (upd X 6 (.slice aT ln cT)) 7 (.slice aV ln cV),by omega,by go_num,by rw[HY.out];rfl,fun j h1 h2=>by
      by_cases e:j=3
      ·subst e;exact HKp.out _ _ HF5.out
      ·have:=HKp.out _ _ (HO5.out j h1 (by omega));rw[show upd (upd X 6 (.slice aT ln cT)) 7 (.slice aV ln cV) (2*j)=X (2*j) by rw[kBr _ _ (by omega),kBr _ _ (by omega)],show upd (upd X 6 (.slice aT ln cT)) 7 (.slice aV ln cV) (2*j+1)=X (2*j+1) by rw[kBr _ _ (by omega),kBr _ _ (by omega)]]
       exact this,fun j=>by
      by_cases e1:j=7
      ·subst e1;exact⟨_,_,_,kFe _ _ _⟩
      ·by_cases e2:j=6
       ·subst e2;exact⟨_,_,_,(kBr _ _ e1).trans (kFe _ _ _)⟩
       ·rw[kBr _ _ e1,kBr _ _ e2];exact HSl.out j,HR6.out,HB6.out⟩
     case measure=>simp[intOf]
    ·clear hrow;obtain⟨a0,m0,d0,ex0⟩:=HSl.out 0;obtain⟨a1,m1,d1,ex1⟩:=HSl.out 1;obtain⟨a2,m2,d2,ex2⟩:=HSl.out 2;obtain⟨a3,m3,d3,ex3⟩:=HSl.out 3;obtain⟨a4,m4,d4,ex4⟩:=HSl.out 4;obtain⟨a5,m5,d5,ex5⟩:=HSl.out 5;obtain⟨a6,m6,d6,ex6⟩:=HSl.out 6;obtain⟨a7,m7,d7,ex7⟩:=HSl.out 7;have h11:=H11.out;rw[ex0,ex1,ex2,ex3,ex4,ex5,ex6,ex7]at h11;have fn0:=HFn.out 0 (by omega) (by omega);simp only[show 2*0=0 from rfl,show 2*0+1=1 from rfl,ex0,ex1]at fn0;have fn1:=HFn.out 1 (by omega) (by omega);simp only[show 2*1=2 from rfl,show 2*1+1=3 from rfl,ex2,ex3]at fn1;have fn2:=HFn.out 2 (by omega) (by omega);simp only[show 2*2=4 from rfl,show 2*2+1=5 from rfl,ex4,ex5]at fn2;have fn3:=HFn.out 3 (by omega) (by omega);simp only[show 2*3=6 from rfl,show 2*3+1=7 from rfl,ex6,ex7]at fn3;clear ex0 ex1 ex2 ex3 ex4 ex5 ex6 ex7;have h2:=(HBe.out.block b2 (jL HA1.out)).trans HA1.out;have c0:=jK wr b11 0 _ _ (0,0) h11;have p0:=jK wr b2 0 _ _ (0,0) h2;have g0:=jO wr b2 0 _ _ h2;have c1:=jK wr b11 1 _ _ (0,0) h11;have p1:=jK wr b2 1 _ _ (0,0) h2;have g1:=jO wr b2 1 _ _ h2;have c2:=jK wr b11 2 _ _ (0,0) h11;have p2:=jK wr b2 2 _ _ (0,0) h2;have g2:=jO wr b2 2 _ _ h2;have c3:=jK wr b11 3 _ _ (0,0) h11;have p3:=jK wr b2 3 _ _ (0,0) h2;have g3:=jO wr b2 3 _ _ h2;have c4:=jK wr b11 4 _ _ (0,0) h11;have p4:=jK wr b2 4 _ _ (0,0) h2;have g4:=jO wr b2 4 _ _ h2;have c5:=jK wr b11 5 _ _ (0,0) h11;have p5:=jK wr b2 5 _ _ (0,0) h2;have g5:=jO wr b2 5 _ _ h2;have c6:=jK wr b11 6 _ _ (0,0) h11;have p6:=jK wr b2 6 _ _ (0,0) h2;have g6:=jO wr b2 6 _ _ h2;have c7:=jK wr b11 7 _ _ (0,0) h11;have p7:=jK wr b2 7 _ _ (0,0) h2;have g7:=jO wr b2 7 _ _ h2;simp at c0 p0 c1 p1 c2 p2 c3 p3 c4 p4 c5 p5 c6 p6 c7 p7;have nn:kEg #[.slice none 0 0,.slice none 0 0,.slice none 0 0,.slice none 0 0,.slice none 0 0,.slice none 0 0,.slice none 0 0,.slice none 0 0]:=kMm (X:=fun _=> .slice none 0 0) (fun _=>⟨_,_,_,rfl⟩);have bb:=HB1.out.trans (HBe.out.mono HB1.out.size)
     have hlo:w.heap.size≤b2:=by rw[Hb2.out];exact Nat.le_refl _
     have y0:=jP _ b2 0 _ _ (.slice a0 m0 d0) h2;have fn0:=fn0.boxN h2 nn 0 (.slice a0 m0 d0);have fn1:=fn1.boxN h2 nn 0 (.slice a0 m0 d0);have fn2:=fn2.boxN h2 nn 0 (.slice a0 m0 d0);have fn3:=fn3.boxN h2 nn 0 (.slice a0 m0 d0);have n0:=nn.set 0 (u:= .slice a0 m0 d0) (fun k z e=>by cases e);have bb:=bb.setCell (p:=⟨b2,0,none⟩) hlo (.slice a0 m0 d0);have y1:=jP _ b2 1 _ _ (.slice a1 m1 d1) y0;have fn0:=fn0.boxN y0 n0 1 (.slice a1 m1 d1);have fn1:=fn1.boxN y0 n0 1 (.slice a1 m1 d1);have fn2:=fn2.boxN y0 n0 1 (.slice a1 m1 d1);have fn3:=fn3.boxN y0 n0 1 (.slice a1 m1 d1);have n1:=n0.set 1 (u:= .slice a1 m1 d1) (fun k z e=>by cases e);have bb:=bb.setCell (p:=⟨b2,1,none⟩) hlo (.slice a1 m1 d1);have y2:=jP _ b2 2 _ _ (.slice a2 m2 d2) y1;have fn0:=fn0.boxN y1 n1 2 (.slice a2 m2 d2);have fn1:=fn1.boxN y1 n1 2 (.slice a2 m2 d2);have fn2:=fn2.boxN y1 n1 2 (.slice a2 m2 d2);have fn3:=fn3.boxN y1 n1 2 (.slice a2 m2 d2);have n2:=n1.set 2 (u:= .slice a2 m2 d2) (fun k z e=>by cases e);have bb:=bb.setCell (p:=⟨b2,2,none⟩) hlo (.slice a2 m2 d2);have y3:=jP _ b2 3 _ _ (.slice a3 m3 d3) y2;have fn0:=fn0.boxN y2 n2 3 (.slice a3 m3 d3);have fn1:=fn1.boxN y2 n2 3 (.slice a3 m3 d3);have fn2:=fn2.boxN y2 n2 3 (.slice a3 m3 d3);have fn3:=fn3.boxN y2 n2 3 (.slice a3 m3 d3);have n3:=n2.set 3 (u:= .slice a3 m3 d3) (fun k z e=>by cases e);have bb:=bb.setCell (p:=⟨b2,3,none⟩) hlo (.slice a3 m3 d3);have y4:=jP _ b2 4 _ _ (.slice a4 m4 d4) y3;have fn0:=fn0.boxN y3 n3 4 (.slice a4 m4 d4);have fn1:=fn1.boxN y3 n3 4 (.slice a4 m4 d4);have fn2:=fn2.boxN y3 n3 4 (.slice a4 m4 d4);have fn3:=fn3.boxN y3 n3 4 (.slice a4 m4 d4);have n4:=n3.set 4 (u:= .slice a4 m4 d4) (fun k z e=>by cases e);have bb:=bb.setCell (p:=⟨b2,4,none⟩) hlo (.slice a4 m4 d4);have y5:=jP _ b2 5 _ _ (.slice a5 m5 d5) y4;have fn0:=fn0.boxN y4 n4 5 (.slice a5 m5 d5);have fn1:=fn1.boxN y4 n4 5 (.slice a5 m5 d5);have fn2:=fn2.boxN y4 n4 5 (.slice a5 m5 d5);have fn3:=fn3.boxN y4 n4 5 (.slice a5 m5 d5);have n5:=n4.set 5 (u:= .slice a5 m5 d5) (fun k z e=>by cases e);have bb:=bb.setCell (p:=⟨b2,5,none⟩) hlo (.slice a5 m5 d5);have y6:=jP _ b2 6 _ _ (.slice a6 m6 d6) y5;have fn0:=fn0.boxN y5 n5 6 (.slice a6 m6 d6);have fn1:=fn1.boxN y5 n5 6 (.slice a6 m6 d6);have fn2:=fn2.boxN y5 n5 6 (.slice a6 m6 d6);have fn3:=fn3.boxN y5 n5 6 (.slice a6 m6 d6);have n6:=n5.set 6 (u:= .slice a6 m6 d6) (fun k z e=>by cases e);have bb:=bb.setCell (p:=⟨b2,6,none⟩) hlo (.slice a6 m6 d6);have y7:=jP _ b2 7 _ _ (.slice a7 m7 d7) y6;have fn0:=fn0.boxN y6 n6 7 (.slice a7 m7 d7);have fn1:=fn1.boxN y6 n6 7 (.slice a7 m7 d7);have fn2:=fn2.boxN y6 n6 7 (.slice a7 m7 d7);have fn3:=fn3.boxN y6 n6 7 (.slice a7 m7 d7);have n7:=n6.set 7 (u:= .slice a7 m7 d7) (fun k z e=>by cases e);have bb:=bb.setCell (p:=⟨b2,7,none⟩) hlo (.slice a7 m7 d7);have HY:=jH y7;have HFN:=jH (And.intro fn0 (And.intro fn1 (And.intro fn2 fn3)));have HBB:=jH bb;clear fn0 fn1 fn2 fn3 bb h2 h11 nn y0 n0 y1 n1 y2 n2 y3 n3 y4 n4 y5 n5 y6 n6 y7 n7;go_wp2
     have hy:=HY.out;have r0:=jK _ b2 0 _ _ (0,0) hy;have r1:=jK _ b2 1 _ _ (0,0) hy;have r2:=jK _ b2 2 _ _ (0,0) hy;have r3:=jK _ b2 3 _ _ (0,0) hy;have r4:=jK _ b2 4 _ _ (0,0) hy;have r5:=jK _ b2 5 _ _ (0,0) hy;have r6:=jK _ b2 6 _ _ (0,0) hy;have r7:=jK _ b2 7 _ _ (0,0) hy;simp at r0 r1 r2 r3 r4 r5 r6 r7;refine jS (v:= .tuple #[.agg #[.slice a0 m0 d0,.slice a1 m1 d1,.slice a2 m2 d2,.slice a3 m3 d3,.slice a4 m4 d4,.slice a5 m5 d5,.slice a6 m6 d6,.slice a7 m7 d7],.int .i32 v]) (by simp[results,Tryz.results8,go_sem,r0,r1,r2,r3,r4,r5,r6,r7]) rfl ?_;exact⟨⟨HBB.out,_,_,rfl,HBd.out,_,_,_,_,_,_,_,_,rfl,HFN.out.1.1,HFN.out.2.1.1,HFN.out.2.2.1.1,HFN.out.2.2.2.1⟩,_,_,_,_,_,_,_,_,_,rfl,HFN.out.1.2.mono HB1.out.size,HFN.out.2.1.2.mono HB1.out.size,HFN.out.2.2.1.2.mono HB1.out.size,HFN.out.2.2.2.2.mono HB1.out.size⟩
theorem kLe (w:World)(pm:Nat)(D:kAs)(h:kFi w pm D)(hwf:kD2 D)(hE8:(kCq D).length≤1048576):
  Calls Tryz.prog 8 #[.pointer (some ⟨pm,0,none⟩)] w fun e w'=>kTg w D e w':=(kJ7 w pm D h hwf hE8).mono fun e w' h=>h.1
end Go.Proofs.YtbmphakfgoompaaGreat
