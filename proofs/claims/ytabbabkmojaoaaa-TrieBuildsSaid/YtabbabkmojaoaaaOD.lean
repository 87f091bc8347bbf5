/- several texts in one: TJ TGS TG8 THS TT TWS LAS -/
import Derived.Test.YtabbabkmojaoaaaNH
import Derived.Test.YtabbabkmojaoaaaNF
import Derived.Test.YtabbabkmojaoaaaNM
import Derived.Test.YtabbabkmojaoaaaOC
import Derived.Test.YtabbabkmojaoaaaNE
import Derived.Laws.BytesArg
import Derived.Deep.RegionLaw
import Derived.Lib.QuietBelow
import Derived.Great.BuildSlice
import Derived.Deep.QuietTactic
import Derived.BigQuiet
import Derived.Lib.Hide
import Derived.Test.YtabbabkmojaoaaaNQ
set_option linter.unusedVariables false
set_option linter.unusedSimpArgs false
set_option maxRecDepth 100000
set_option maxHeartbeats 16000000
namespace Go.Proofs.Ytabbabkmojaoaaa
open Go.RowKit
attribute [local go_sem] Oper.semAt_some kEq
end Go.Proofs.Ytabbabkmojaoaaa

namespace Go.Proofs.Ytabbabkmojaoaaa.VS
open Go.RowKit
end Go.Proofs.Ytabbabkmojaoaaa.VS

namespace Go.Proofs.Ytabbabkmojaoaaa
open Go.RowKit
end Go.Proofs.Ytabbabkmojaoaaa

namespace Go.Proofs.Ytabbabkmojaoaaa.VS
open Go.RowKit
theorem kDw (w:World)(g:Nat)(T:kAy El)(hk:kA5 T)(h0:0<T.low.length)(h:kAj val8 138 64 w g T):
  Calls Try.prog 68 #[.pointer (some ⟨g,0,none⟩)] w fun e w'=>e= .returned (.bool true)∧w=w':=by
 obtain⟨am,cm,al,cl,h1,h2,h3⟩:=h;have c2:=kAj.cell_low (val:=val8) hk h1
 have h0i:(0:Int)<(T.low.length:Int):=by omega
 have d0:decide ((0:Int)<(T.low.length:Int))=true:=decide_eq_true h0i
 have H1:=jH h1;clear h1
 have H2:=jH h2;clear h2
 have H3:=jH h3;clear h3
 clear hk;generalize T.low.length=n at*
 go_enter Try.func68,Try.ntmps68
 go_wp2
 go_ret
 exact⟨rfl,rfl⟩
theorem kC8 {P:Program}{ops:Array Oper}{w:World}{Q:Act→Prop}{rest:List Oper}{o:Oper}{a:Act}(hg:o.guard=none)(bo:BinOp)(t:TypeId)(x y:Operand)(t2:TypeId)(ho:o.op= .binOp bo t x y t2)(xv yv v:Value)(hx:a.eval x=xv)(hy:a.eval y=yv)
  (hG:(eqGuard bo t x y xv yv).run P w= .ok () w)(hr:(binOp bo t xv yv).run P w= .ok v w)(h:wpStill P ops w Q rest (a.put o.dst v)):wpStill P ops w Q (o :: rest) a:=by
 refine kFb hg ?_ h;unfold execOp;simp only[ho,hx,hy,Sem.run_bind,Sem.run_pure,Result.andThen_ok,hG,hr]
theorem kIr (xs ys:Array Value)(x y:Operand)(w:World):(eqGuard .neq 122 x y (.agg xs) (.agg ys)).run Try.prog w= .ok () w:=run_eqGuard_agg w .neq 122 x y xs ys (by kernel_rfl)
theorem kIx {P:Program}(w:World)(t:TypeId)(xs ys:Array Value)(b:Bool)(h:(Op.equal t (.agg xs) (.agg ys)).run P w= .ok b w):(binOp .neq t (.agg xs) (.agg ys)).run P w= .ok (.bool (!b)) w:=by
 simp[binOp,h]
theorem kGj (l m:List El)(h:l.length=m.length):eqL (fun a b=>decide (a=b)) l m=decide (l=m):=by
 by_cases e:l=m
 ·rw[(kF4 l m h).2 e];simp[e]
 ·cases e2:eqL (fun a b=>decide (a=b)) l m
  ·simp[e]
  ·exact absurd ((kF4 l m h).1 e2) e
theorem kIy (l m:List El)(hl:l.length=64)(hm:m.length=64)(w:World):(binOp .neq 122 (.agg (kAf val8 l).toArray) (.agg (kAf val8 m).toArray)).run Try.prog w= .ok (.bool (!decide (l=m))) w:=by
 have:= Try.k8.equal w l m hl hm;rw[kGj l m (by omega)]at this;exact kIx w _ _ _ _ this
def SaO (w:World) (T1 T2:kAy El) (v:Value) (wr:World):Prop:=∃c:Nat,c≤272∧v= .int .i64 (c:Nat)∧(∀k,k<64*c→kBd T1 k=kBd T2 k)∧∃n,wr=w.drewN n
def SaI (w:World) (T1 T2:kAy El) (c:Nat) (v:Value) (wr:World):Prop:=∃j:Nat,j≤64∧v= .int .i64 (j:Nat)∧(∀k,k<64*c+j→kBd T1 k=kBd T2 k)∧∃n,wr=w.drewN n
theorem kGr {T1 T2:kAy El}(h1:kA5 T1)(h2:kA5 T2):(∀k,k<17408→kBd T1 k=kBd T2 k)↔∀r,r≤1114111→kAl ByteArray.empty T1 r=kAl ByteArray.empty T2 r:=by
 constructor
 ·intro h r hr;have e:=h (r / 64) (by omega);rw[show r=64*(r / 64)+r % 64 by omega,←kBs ByteArray.empty T1 (r / 64) (r % 64) (by omega),←kBs ByteArray.empty T2 (r / 64) (r % 64) (by omega),e]
 ·intro h k hk
  apply List.ext_getElem?
  intro j;have l1:=kBc h1 k hk;have l2:=kBc h2 k hk
  by_cases hj:j<64
  ·have:=h (64*k+j) (by omega);rw[←kBs ByteArray.empty T1 k j hj,←kBs ByteArray.empty T2 k j hj,kAn (by omega),kAn (by omega)]at this;rw[List.getElem?_eq_getElem (by omega),List.getElem?_eq_getElem (by omega),this]
  ·rw[List.getElem?_eq_none (by omega),List.getElem?_eq_none (by omega)]
structure TopC (w:World) (g:Nat) (T:kAy El) (c cm cl i bm om bl ol:Nat):Prop where
 mid:w.cell? ⟨g,272,none⟩=some (.slice (some ⟨bm,om,none⟩) T.mid.length cm)
 low:w.cell? ⟨g,273,none⟩=some (.slice (some ⟨bl,ol,none⟩) T.low.length cl)
 top:w.cell? ⟨g,c,none⟩=some (.int .u16 (i:Nat))
 il:i<T.mid.length
 m:∀j,j<64→∃q,w.cell? ⟨bm,om+i*64+j,none⟩=some (.int .u16 (q:Nat))∧q<T.low.length∧w.rangeAt bl (ol+q*64) (kAf val8 (kBd T (64*c+j)))
theorem kNc {w:World}{g:Nat}{T:kAy El}(hk:kA5 T)(h0:0<T.low.length)(h:kAj val8 138 64 w g T)(c:Nat)(hc:c<272):∃cm cl i bm om bl ol,TopC w g T c cm cl i bm om bl ol:=by
 obtain⟨am,cm,al,cl,h1,h2,h3⟩:=h;have ht:=kAj.cell_top (val:=val8) hk h1 c hc
 have htl:c<T.top.length:=by rw[hk.top];exact hc
 obtain⟨i,hi⟩:∃i,i=T.top.getD c 0:=⟨_,rfl⟩
 have hil:i<T.mid.length:=by
  rw[hi,kAn (d:=0) htl];exact hk.topN _ (List.getElem_mem htl)
 have hml:(T.mid[i]).length=64:=hk.mid _ (List.getElem_mem hil);obtain⟨bm,om,rfl⟩:=h2.some (by omega);obtain⟨bl,ol,rfl⟩:=h3.some h0;refine⟨cm,cl,i,bm,om,bl,ol,kAj.cell_mid (val:=val8) hk h1,kAj.cell_low (val:=val8) hk h1,by rw[ht,←hi];rfl,hil,fun j hj=> ?_⟩
 have hmj:j<(T.mid[i]).length:=by rw[hml];exact hj
 have hjl:(T.mid[i]).getD j 0<T.low.length:=by
  rw[kAn (d:=0) hmj];exact hk.midN _ (List.getElem_mem hil) _ (List.getElem_mem hmj)
 refine⟨(T.mid[i]).getD j 0,?_,hjl,?_⟩
 ·rw[h2.cell kA0 i hil j hmj,kAn (d:=0) hmj]
  rfl
 ·have e:kBd T (64*c+j)=T.low[(T.mid[i]).getD j 0]:=by
   unfold kBd;rw[show(64*c+j) / 64=c by omega,show(64*c+j) % 64=j by omega,←hi,kAn (d:=[]) hil,kAn (d:=[]) hjl]
  rw[e];exact h3.get _ hjl
theorem kGe (w:World)(g1 g2:Nat)(T1 T2:kAy El)(hk1:kA5 T1)(hk2:kA5 T2)(h01:0<T1.low.length)(h02:0<T2.low.length)(ht1:kAj val8 138 64 w g1 T1)(ht2:kAj val8 138 64 w g2 T2):
  Calls Try.prog 25 #[.pointer (some ⟨g1,0,none⟩),.pointer (some ⟨g2,0,none⟩)] w fun e w'=>∃b n,e= .returned (.bool b)∧w'=w.drewN n∧(b=true↔∀r,r≤1114111→kAl ByteArray.empty T1 r=kAl ByteArray.empty T2 r):=by
 have HTh1:=jH (kDw w g1 T1 hk1 h01 ht1);have HTh2:=jH (kDw w g2 T2 hk2 h02 ht2);have HC1:=jH (kNc hk1 h01 ht1);have HC2:=jH (kNc hk2 h02 ht2);have HS:=jH (kGr hk1 hk2);have HL1:=jH (kBc hk1);have HL2:=jH (kBc hk2);have hm1:=hk1.midL;have hm2:=hk2.midL;have hl1:=hk1.lowL;have hl2:=hk2.lowL;clear ht1 ht2 hk1 hk2
 go_enter Try.func25,Try.ntmps25
 go_wp2_with fail
 refine HTh1.out.mono ?_;rintro e w1 ⟨rfl,rfl⟩
 go_wp2_with fail
 refine HTh2.out.mono ?_;rintro e w1 ⟨rfl,rfl⟩;go_wp2
 go_loopw [17] (SaO w T1 T2) (fun i _=>272 - (intOf i).toNat)
 case atStart=>exact⟨0,Nat.zero_le _,rfl,fun k hk=>by omega,0,rfl⟩
 case round=>
  obtain⟨c,hc,rfl,hsame,q,rfl⟩:=hrel
  have HSm:=jH hsame;clear hsame
  by_cases hcn:c<272
  ·have hci:(c:Int)<272:=by omega
   obtain⟨cm1,cl1,i1,bm1,om1,bl1,ol1,hc1⟩:=HC1.out c hcn;obtain⟨cm2,cl2,i2,bm2,om2,bl2,ol2,hc2⟩:=HC2.out c hcn;have p1:w.cell? ⟨g1,272,none⟩=_:=hc1.mid;have p2:w.cell? ⟨g1,c,none⟩=_:=hc1.top;have p3:w.cell? ⟨g2,272,none⟩=_:=hc2.mid;have p4:w.cell? ⟨g2,c,none⟩=_:=hc2.top;have i1l:=hc1.il;have i2l:=hc2.il
   have H1:=jH hc1;clear hc1
   have H2:=jH hc2;clear hc2
   generalize hnm1:T1.mid.length=nm1 at*;generalize hnm2:T2.mid.length=nm2 at*;have HN:=jH (And.intro hnm1 hnm2);clear hnm1 hnm2
   have g1':(0:Int)≤(i1:Int):=by omega
   have g2':(i1:Int)<(nm1:Int):=by omega
   have g3':(0:Int)≤(i2:Int):=by omega
   have g4':(i2:Int)<(nm2:Int):=by omega
   have g5':(0:Int)≤(c:Int):=by omega
   go_wp2
   go_quiet (fail)
   clear p1 p2 p3 p4;go_wp2
   go_loopw [42] (SaI w T1 T2 c) (fun i _=>64 - (intOf i).toNat)
   case atStart=>exact⟨0,Nat.zero_le _,rfl,HSm.out,q+nq,by rw[World.drewN_drewN]⟩
   case round=>
    obtain⟨j,hj,rfl,hsame,q,rfl⟩:=hrel
    have HSm2:=jH hsame;clear hsame
    by_cases hjn:j<64
    ·have hji:(j:Int)<64:=by omega
     obtain⟨k1,m1,l1,r1⟩:=H1.out.m j hjn;obtain⟨k2,m2,l2,r2⟩:=H2.out.m j hjn;have p1:(w.drewN q).cell? ⟨g1,273,none⟩=_:=H1.out.low;have p3:(w.drewN q).cell? ⟨g2,273,none⟩=_:=H2.out.low;have m1:(w.drewN q).cell? ⟨bm1,om1+i1*64+j,none⟩=_:=m1;have m2:(w.drewN q).cell? ⟨bm2,om2+i2*64+j,none⟩=_:=m2;have r1:(w.drewN q).rangeAt bl1 (ol1+k1*64) (kAf val8 (kBd T1 (64*c+j))):=r1;have r2:(w.drewN q).rangeAt bl2 (ol2+k2*64) (kAf val8 (kBd T2 (64*c+j))):=r2
     obtain⟨wr,hwr⟩:∃wr,wr=w.drewN q:=⟨_,rfl⟩
     rw[←hwr]at p1 p3 m1 m2 r1 r2 ⊢
     have HWr:=jH hwr;clear hwr
     have e1:=HL1.out (64*c+j) (by omega);have e2:=HL2.out (64*c+j) (by omega)
     obtain⟨b1,hb1⟩:∃b1,b1=kBd T1 (64*c+j):=⟨_,rfl⟩
     obtain⟨b2,hb2⟩:∃b2,b2=kBd T2 (64*c+j):=⟨_,rfl⟩
     rw[←hb1]at e1 r1;rw[←hb2]at e2 r2
     have hs1:(kAf val8 b1).length=64:=by rw[kAh (sz:=1) (fun _=>rfl),e1]
     have hs2:(kAf val8 b2).length=64:=by rw[kAh (sz:=1) (fun _=>rfl),e2]
     have R1:=jH r1;clear r1
     have R2:=jH r2;clear r2
     have HB:=jH (And.intro hb1 hb2);clear hb1 hb2
     generalize hnl1:T1.low.length=nl1 at*;generalize hnl2:T2.low.length=nl2 at*;clear hnl1 hnl2
     have g1':(0:Int)≤(k1:Int):=by omega
     have g2':(k1:Int)<(nl1:Int):=by omega
     have g3':(0:Int)≤(k2:Int):=by omega
     have g4':(k2:Int)<(nl2:Int):=by omega
     have g5':(0:Int)≤(j:Int):=by omega
     go_upto_region 10 with(fail)
     refine wp_region_still_lit (by kernel_rfl) (by kernel_rfl) ?_
     iterate 10 still_step
     refine kAw rfl 122 (.tmp 54) rfl bl1 (ol1+k1*64) rfl (kAf val8 b1) _ (show(wr.drew).rangeAt bl1 (ol1+k1*64) (kAf val8 b1)from R1.out) Try.underlying122 rfl (by rw[hs1];kernel_rfl) ?_
     iterate 10 still_step
     refine kAw rfl 122 (.tmp 65) rfl bl2 (ol2+k2*64) rfl (kAf val8 b2) _ (show(wr.drew).rangeAt bl2 (ol2+k2*64) (kAf val8 b2)from R2.out) Try.underlying122 rfl (by rw[hs2];kernel_rfl) ?_;refine kC8 rfl .neq 122 (.tmp 55) (.tmp 66) _ rfl (.agg (kAf val8 b1).toArray) (.agg (kAf val8 b2).toArray) _ rfl rfl (kIr _ _ _ _ _) (kIy b1 b2 e1 e2 _) ?_;refine wpStill_nil ?_;clear p1 p3 m1 m2
     by_cases hbb:b1=b2
     ·have hd:decide (b1=b2)=true:=decide_eq_true hbb;rw[hd]
      have HSm3:Hid (∀k,k<64*c+(j+1)→kBd T1 k=kBd T2 k):=jH (fun k hk=>by
       by_cases e:k=64*c+j
       ·rw[e,←HB.out.1,←HB.out.2,hbb]
       ·exact HSm2.out k (by omega))
      clear hbb hd;go_wp2
      go_roundw
      case rel=>exact⟨j+1,by omega,by go_num,HSm3.out,q+1,by rw[HWr.out];rfl⟩
      case measure=>simp[intOf];omega
     ·have hd:decide (b1=b2)=false:=decide_eq_false hbb;rw[hd];have HNe:Hid (¬ ∀r,r≤1114111→kAl ByteArray.empty T1 r=kAl ByteArray.empty T2 r):=jH (fun h=>hbb (by rw[HB.out.1,HB.out.2];exact HS.out.2 h _ (by omega)));clear hbb hd;go_wp2
      go_ret
      exact⟨false,q+1,rfl,by rw[HWr.out];rfl,fun h=>absurd h (by simp),fun h=>absurd h HNe.out⟩
    ·obtain rfl:j=64:=by omega
     have HSm3:Hid (∀k,k<64*(c+1)→kBd T1 k=kBd T2 k):=jH HSm2.out;go_wp2
     go_roundw
     case rel=>exact⟨c+1,by omega,by go_num,HSm3.out,q,rfl⟩
     case measure=>simp[intOf];omega
  ·obtain rfl:c=272:=by omega
   have HSe:=jH (HS.out.1 HSm.out);go_wp2
   go_ret
   exact⟨true,q,rfl,rfl,fun _=>HSe.out,fun _=>rfl⟩
end Go.Proofs.Ytabbabkmojaoaaa.VS

namespace Go.Proofs.Ytabbabkmojaoaaa
open Go.RowKit
def kKh (v:Int):ByteArray:=strOfNums [v,v]
theorem kKi (v:Int)(w:World):Calls Try.prog 21 #[.int .u8 v] w fun e w'=>e= .returned (.string (kKh v))∧Below w.heap.size w w':=by
 have h1:=run_convert_bytes_arg (w.alloc (.cells #[.int .u8 v,.int .u8 v] 5)) 77 5 Try.underlying77 Try.underlying5 w.heap.size 0 2 2 [v,v] rfl (fun i hi=>by
  rw[Nat.zero_add,jK _ w.heap.size i _ _ (0,0) (jN w _)]
  match i,hi with
  | 0,_=>rfl
  | 1,_=>rfl) 9 Try.underlying9
 have HB:=jH ((Below.refl w.heap.size w).alloc jR (.cells #[.int .u8 v,.int .u8 v] 5))
 go_enter Try.func21,Try.ntmps21
 go_wp2
 go_ret
 exact⟨rfl,HB.out⟩
end Go.Proofs.Ytabbabkmojaoaaa

namespace Go.Proofs.Ytabbabkmojaoaaa.VS
open Go.RowKit
theorem kBn (w:World)(g:Nat)(T:kAy El)(hk:kA5 T)(h0:0<T.low.length)(h:kAj val8 138 64 w g T):
  Calls Try.prog 68 #[.pointer (some ⟨g,0,none⟩)] w fun e w'=>e= .returned (.bool true)∧w=w':=by
 obtain⟨am,cm,al,cl,h1,h2,h3⟩:=h;have c2:=kAj.cell_low (val:=val8) hk h1
 have h0i:(0:Int)<(T.low.length:Int):=by omega
 have d0:decide ((0:Int)<(T.low.length:Int))=true:=decide_eq_true h0i
 have H1:=jH h1;clear h1
 have H2:=jH h2;clear h2
 have H3:=jH h3;clear h3
 clear hk;generalize T.low.length=n at*
 go_enter Try.func68,Try.ntmps68
 go_wp2
 go_ret
 exact⟨rfl,rfl⟩
theorem kDm (w:World)(g:Nat)(T:kAy El)(hk:kA5 T)(h0:0<T.low.length)(h:kAj val8 138 64 w g T):
  Calls Try.prog 84 #[.pointer (some ⟨g,0,none⟩)] w fun e w'=>e= .returned (.tuple #[.int .i64 (T.mid.length:Nat),.int .i64 (T.low.length:Nat)])∧∃n,w'=w.drewN n:=by
 have HT:=jH (kBn w g T hk h0 h);obtain⟨am,cm,al,cl,h1,h2,h3⟩:=h;have c2:=kAj.cell_low (val:=val8) hk h1;have c1:=kAj.cell_mid (val:=val8) hk h1
 have H1:=jH h1;clear h1
 have H2:=jH h2;clear h2
 have H3:=jH h3;clear h3
 clear hk;generalize T.low.length=n at*;generalize T.mid.length=m at*
 go_enter Try.func84,Try.ntmps84
 go_wp2_with fail
 refine HT.out.mono ?_;rintro e w1 ⟨rfl,rfl⟩;clear HT;go_wp2
 go_quiet (fail)
 go_wp2
 go_ret2
 exact⟨rfl,_,rfl⟩
theorem kDh (w:World)(g:Nat)(T:kAy El)(hk:kA5 T)(h0:0<T.low.length)(h:kAj val8 138 64 w g T)(r:Int)(hr1: -2147483648≤r)(hr2:r≤2147483647):
  Calls Try.prog 82 #[.pointer (some ⟨g,0,none⟩),.int .i32 r] w fun e w'=>e= .returned (val8 (kAl (ByteArray.empty:El) T (kDe r)))∧∃n,w'=w.drewN n:=by
 have HT:=jH (kBn w g T hk h0 h)
 obtain⟨q,hq⟩:∃q:Nat,q=kDe r:=⟨_,rfl⟩
 have hql:q≤1114111:=by rw[hq];exact kFk r
 obtain⟨am,cm,al,cl,i,j,c1,c2,c3,hi,hj,⟨bm,om,rfl,c4⟩,⟨bl,ol,rfl,c5⟩⟩:=kMx kBt hk h (ByteArray.empty:El) q hql;have hml:=hk.midL;have hll:=hk.lowL;rw[←hq];generalize kAl (ByteArray.empty:El) T q=v at*;clear h hk h0;generalize T.mid.length=nm at*;generalize T.low.length=nl at*
 have g1:(0:Int)≤(i:Int):=by omega
 have g2:(i:Int)<(nm:Int):=by omega
 have g3:(0:Int)≤(j:Int):=by omega
 have g4:(j:Int)<(nl:Int):=by omega
 have k1:(0:Int)≤(q:Int) / 64:=by omega
 have k2:(0:Int)≤(q:Int) / 64 / 64:=by omega
 have k3:(q:Int) / 64 / 64<272:=by omega
 have k4:(0:Int)≤(q:Int) / 64 % 64:=by omega
 have k5:(q:Int) / 64 % 64<64:=by omega
 have k6:(0:Int)≤(q:Int) % 64:=by omega
 have k7:(q:Int) % 64<64:=by omega
 by_cases h1:0≤r∧r≤1114111
 ·obtain⟨h1,h2⟩:=h1
  obtain rfl:r=(q:Int):=by rw[hq];unfold kDe;rw[if_neg (by omega)];omega
  clear hq
  have n1:¬(q:Int)<0:=by omega
  have n2:¬(1114111:Int)<(q:Int):=by omega
  go_enter Try.func82,Try.ntmps82
  go_wp2_with fail
  refine HT.out.mono ?_;rintro e w1 ⟨rfl,rfl⟩;clear HT;go_wp2
  go_quiet (fail)
  go_wp2
  go_ret
  exact⟨rfl,_,rfl⟩
 ·have hq':q=65533:=by rw[hq];unfold kDe;rw[if_pos (by omega)]
  clear hq;have HQ:=jH hq'
  obtain⟨q0,hq0⟩:∃q0:Int,q0=65533:=⟨_,rfl⟩
  have hqq:(q:Int)=q0:=by rw[hq0,hq'];rfl
  by_cases h2:r<0
  ·have n1:decide (r<0)=true:=decide_eq_true h2;subst hq';clear hq0 hqq
   go_enter Try.func82,Try.ntmps82
   go_wp2_with fail
   refine HT.out.mono ?_;rintro e w1 ⟨rfl,rfl⟩;clear HT;go_wp2
   go_quiet (fail)
   go_wp2
   go_ret
   exact⟨rfl,_,rfl⟩
  ·have n1:¬r<0:=h2
   have n2:(1114111:Int)<r:=by omega
   have d1:decide (r<0)=false:=decide_eq_false h2;have d2:decide ((1114111:Int)<r)=true:=decide_eq_true n2;subst hq';clear hq0 hqq
   go_enter Try.func82,Try.ntmps82
   go_wp2_with fail
   refine HT.out.mono ?_;rintro e w1 ⟨rfl,rfl⟩;clear HT;go_wp2
   go_quiet (fail)
   go_wp2
   go_ret
   exact⟨rfl,_,rfl⟩
end Go.Proofs.Ytabbabkmojaoaaa.VS

namespace Go.Proofs.Ytabbabkmojaoaaa.VS
open Go.RowKit
attribute [local go_sem] Oper.semAt_some
def AkR (n:Nat) (w2:World) (iv:Value) (wr:World):Prop:=∃k:Nat,k≤n∧iv= .int .i64 (k:Nat)∧Below w2.heap.size w2 wr
theorem kDn (w:World)(aT:Option Addr)(cT:Nat)(aM:Option Addr)(cM:Nat)(aL:Option Addr)(cL:Nat)(sT:Option Addr)(dT:Nat)(sM:Option Addr)(dM:Nat)(sL:Option Addr)(dL:Nat)(tops mids:List Nat)(lows:List Int)(nT nM nL:Nat)
  (hnT:tops.length=nT)(hnM:mids.length=nM)(hnL:lows.length=nL)(hsz:nT≤1114112∧nM≤1114112∧nL≤1114112)(ofv:Int→El)(cf:Nat)(lb:Array Value)(eg:∀args W,(callFunc cf args).run Try.prog W= .ok (.enter cf args) W)
  (h1:kEz w aT (tops.map kAb))(h2:kEz w aM (mids.map kAb))(h3:kEz w aL (lows.map (fun v=>val8 (ofv v))))(k1:Ints .i64 w sT (kBr tops))(k2:Ints .i64 w sM (kBr mids))(k3:Ints .i64 w sL lows)(hv:∀v∈lows,0≤v∧v≤255)(ht:∀x∈tops,x<65536)(hm:∀x∈mids,x<65536)
  (hcall:∀v∈lows,∀W,Below w.heap.size w W→Calls Try.prog cf (#[.int .u8 v]++lb) W fun e W'=>e= .returned (val8 (ofv v))∧Below W.heap.size W W'):
  Calls Try.prog 85 #[.agg #[.slice aT nT cT,.slice aM nM cM,.slice aL nL cL],.agg #[.slice sT nT dT,.slice sM nM dM,.slice sL nL dL],.func (.func cf) #[] lb] w fun e w'=>e= .returned (.bool true)∧Below w.heap.size w w':=by
 obtain⟨z1,z2,z3⟩:=hsz
 have HNT:=jH hnT;have HNM:=jH hnM;have HNL:=jH hnL;have HEg:=jH eg;have H1:=jH h1;have H2:=jH h2;have H3:=jH h3;have K1:=jH k1;have K2:=jH k2;have K3:=jH k3;have HV:=jH hv;have HTb:=jH ht;have HMb:=jH hm;have HC:=jH hcall
 clear hnT hnM hnL eg h1 h2 h3 k1 k2 k3 hv ht hm hcall;have E1:=jN w (.cells #[.slice aT nT cT,.slice aM nM cM,.slice aL nL cL] 167);have E2:=(Below.refl _ w).alloc jR (.cells #[.slice aT nT cT,.slice aM nM cM,.slice aL nL cL] 167);have E3:=World.size_alloc w (.cells #[.slice aT nT cT,.slice aM nM cM,.slice aL nL cL] 167)
 go_enter Try.func85,Try.ntmps85
 go_upto_region 1 with(fail)
 generalize w.alloc (.cells #[.slice aT nT cT,.slice aM nM cM,.slice aL nL cL] 167)=w1 at*;have F1:=jN w1 (.cells #[.slice sT nT dT,.slice sM nM dM,.slice sL nL dL] 70);have F2:=(Below.refl _ w1).alloc jR (.cells #[.slice sT nT dT,.slice sM nM dM,.slice sL nL dL] 70);generalize w1.alloc (.cells #[.slice sT nT dT,.slice sM nM dM,.slice sL nL dL] 70)=w2 at*
 obtain⟨b0,hb0⟩:∃b0,b0=w.heap.size:=⟨_,rfl⟩
 rw[←hb0]at E1 E3 ⊢;rw[E3]at F1;have HB:Hid (Below w.heap.size w w2):=jH (E2.trans (F2.mono (by omega)));have X0:Hid (w2.heap[b0]? =some (.cells #[.slice aT nT cT,.slice aM nM cM,.slice aL nL cL] 167 (0,0))):=jH ((F2.block b0 (by omega)).trans E1);have X1:=jH F1;clear E1 E2 E3 F1 F2 hb0
 have H1:=jH (kBo H1.out HB.out jR);have H2:=jH (kBo H2.out HB.out jR);have H3:=jH (kBo H3.out HB.out jR)
 have K1:=jH (K1.out.below HB.out jR);have K2:=jH (K2.out.below HB.out jR);have K3:=jH (K3.out.below HB.out jR)
 have HCell:=jH (fun(W:World) (hb:Below w2.heap.size w2 W)=>show(W.cell? ⟨b0,0,none⟩=some (.slice aT nT cT)∧W.cell? ⟨b0,1,none⟩=some (.slice aM nM cM)∧W.cell? ⟨b0,2,none⟩=some (.slice aL nL cL))∧(W.cell? ⟨b0+1,0,none⟩=some (.slice sT nT dT)∧W.cell? ⟨b0+1,1,none⟩=some (.slice sM nM dM)∧W.cell? ⟨b0+1,2,none⟩=some (.slice sL nL dL))from by
  have x0:=(hb.block b0 (jL X0.out)).trans X0.out;have x1:=(hb.block (b0+1) (jL X1.out)).trans X1.out
  exact⟨⟨jK W b0 0 _ _ (0,0) x0,jK W b0 1 _ _ (0,0) x0,jK W b0 2 _ _ (0,0) x0⟩,⟨jK W (b0+1) 0 _ _ (0,0) x1,jK W (b0+1) 1 _ _ (0,0) x1,jK W (b0+1) 2 _ _ (0,0) x1⟩⟩)
 obtain⟨⟨p0,p1,p2⟩,⟨q0,q1,q2⟩⟩:=HCell.out w2 (Below.refl _ _);go_wp2
 clear p0 p1 p2 q0 q1 q2
 go_loopw [7] (AkR nT w2) (fun i _=>nT - (intOf i).toNat)
 case atStart=>exact⟨0,Nat.zero_le _,rfl,Below.refl _ _⟩
 case round=>
  obtain⟨k,hk,rfl,hbel⟩:=hrel
  have HBl:=jH hbel;clear hbel
  obtain⟨⟨p0,p1,p2⟩,⟨q0,q1,q2⟩⟩:=HCell.out wr HBl.out
  by_cases hkn:k<nT
  ·have hki:(k:Int)<(nT:Int):=by omega
   have hkl:k<tops.length:=by rw[HNT.out];exact hkn
   obtain⟨b1,o1,e1,c1⟩:=(kBo H1.out HBl.out jR) k (by rw[List.length_map];exact hkl);obtain⟨b2,o2,e2,c2⟩:=(K1.out.below HBl.out jR) k (by rw[kBp];exact hkl);subst e1 e2;simp only[kBr,List.getElem_map]at c1 c2;unfold kAb at c1;have hxb:=HTb.out _ (List.getElem_mem hkl);generalize tops[k]=x at*
   have hw:wrap64 (x:Int)=(x:Int):=by unfold wrap64;omega
   have hxx:((x:Int) != (x:Int))=false:=by simp
   clear p1 p2 q1 q2;go_wp2
   go_quiet (fail)
   have HBq:Hid (Below w2.heap.size w2 (wr.drewN nq)):=jH (below_drewN HBl.out nq);clear c1 c2 p0 q0;generalize wr.drewN nq=w6 at*;go_wp2
   exact⟨⟨k+1,by omega,by go_num,HBq.out⟩,by simp[intOf];omega⟩
  ·obtain rfl:k=nT:=by omega
   have hki:¬(k:Int)<(k:Int):=by omega
   go_wp2
   clear p0 p1 p2 q0 q1 q2
   go_loopw [8] (AkR nM w2) (fun i _=>nM - (intOf i).toNat)
   case atStart=>exact⟨0,Nat.zero_le _,rfl,HBl.out⟩
   case round=>
    clear HBl;obtain⟨m,hm,rfl,hbel⟩:=hrel
    have HBl:=jH hbel;clear hbel
    obtain⟨⟨p0,p1,p2⟩,⟨q0,q1,q2⟩⟩:=HCell.out wr HBl.out
    by_cases hmn:m<nM
    ·have hmi:(m:Int)<(nM:Int):=by omega
     have hml:m<mids.length:=by rw[HNM.out];exact hmn
     obtain⟨b1,o1,e1,c1⟩:=(kBo H2.out HBl.out jR) m (by rw[List.length_map];exact hml);obtain⟨b2,o2,e2,c2⟩:=(K2.out.below HBl.out jR) m (by rw[kBp];exact hml);subst e1 e2;simp only[kBr,List.getElem_map]at c1 c2;unfold kAb at c1;have hxb:=HMb.out _ (List.getElem_mem hml);generalize mids[m]=x at*
     have hw:wrap64 (x:Int)=(x:Int):=by unfold wrap64;omega
     have hxx:((x:Int) != (x:Int))=false:=by simp
     clear p0 p2 q0 q2;go_wp2
     go_quiet (fail)
     have HBq:Hid (Below w2.heap.size w2 (wr.drewN nq)):=jH (below_drewN HBl.out nq);clear c1 c2 p1 q1;generalize wr.drewN nq=w6 at*;go_wp2
     exact⟨⟨m+1,by omega,by go_num,HBq.out⟩,by simp[intOf];omega⟩
    ·obtain rfl:m=nM:=by omega
     have hmi:¬(m:Int)<(m:Int):=by omega
     go_wp2
     clear p0 p1 p2 q0 q1 q2
     go_loopw [9] (AkR nL w2) (fun i _=>nL - (intOf i).toNat)
     case atStart=>exact⟨0,Nat.zero_le _,rfl,HBl.out⟩
     case round=>
      clear HBl;obtain⟨j,hj,rfl,hbel⟩:=hrel
      have HBl:=jH hbel;clear hbel
      obtain⟨⟨p0,p1,p2⟩,⟨q0,q1,q2⟩⟩:=HCell.out wr HBl.out
      by_cases hjn:j<nL
      ·have hji:(j:Int)<(nL:Int):=by omega
       have hjl:j<lows.length:=by rw[HNL.out];exact hjn
       obtain⟨b1,o1,e1,c1⟩:=(kBo H3.out HBl.out jR) j (by rw[List.length_map];exact hjl);obtain⟨b2,o2,e2,c2⟩:=(K3.out.below HBl.out jR) j hjl;subst e1 e2;simp only[List.getElem_map]at c1;have hvk:=HV.out _ (List.getElem_mem hjl);have HCk:=jH (fun d os=>(HC.out _ (List.getElem_mem hjl) (Go.Sort.grow (Go.redrawn wr d) os) (HB.out.trans ((HBl.out.mono HB.out.size).trans ((below_regrown wr d os).mono (Nat.le_trans HB.out.size HBl.out.size))))).regrown_of);generalize lows[j]=v at*
       have hwv:IntKind.u8.wrap v=v:=by simp[IntKind.wrap,IntKind.bits,IntKind.signed];omega
       unfold val8 at c1 HCk
       obtain⟨x,hx⟩:∃x,x=ofv v:=⟨_,rfl⟩
       rw[←hx]at c1 HCk;clear hx
       have k0:=fun d os=>cell_regrown c1 d os
       have k1:=fun d os=>cell_regrown c2 d os
       have k2:=fun d os=>cell_regrown p2 d os
       have k3:=fun d os=>cell_regrown q2 d os
       have heg:=HEg.out;clear p0 p1 q0 q1 c1 c2
       go_upto_region 16 with(fail)
       clear p2 q2;refine wp_region_quiet_below (by kernel_rfl) (by kernel_rfl) ?_
       iterate 12 (quiet_step (fail))
       quiet_step (exact HCk.out _ _)
       quiet_step (fail)
       refine wpQuiet_nil ?_;intro _ hw';obtain⟨⟨dq,osq⟩,hw''⟩:=hw';subst hw'';have HBq:Hid (Below w2.heap.size w2 (Go.Sort.grow (Go.redrawn wr dq) osq)):=jH (HBl.out.trans ((below_regrown wr dq osq).mono HBl.out.size));generalize (Go.Sort.grow (Go.redrawn wr dq) osq)=w6 at*;clear k0 k1 k2 k3 heg;go_wp2
       go_roundw
       case rel=>exact⟨j+1,by omega,by go_num,HBq.out⟩
       case measure=>simp[intOf];omega
      ·obtain rfl:j=nL:=by omega
       have hji:¬(j:Int)<(j:Int):=by omega
       go_wp2
       go_ret
       exact⟨rfl,HB.out.trans (HBl.out.mono HB.out.size)⟩
end Go.Proofs.Ytabbabkmojaoaaa.VS
