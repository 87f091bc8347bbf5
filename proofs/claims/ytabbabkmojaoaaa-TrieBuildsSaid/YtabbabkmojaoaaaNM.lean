/- several texts in one: TH8 FC8 TT0 -/
import Derived.Test.YtabbabkmojaoaaaNE
import Derived.Test.YtabbabkmojaoaaaNH
import Derived.Test.YtabbabkmojaoaaaNL
import Derived.Laws.BytesArg
import Derived.Deep.RegionLaw
import Derived.Lib.QuietBelow
import Derived.Great.BuildSlice
import Derived.Test.YtabbabkmojaoaaaNF
set_option linter.unusedVariables false
set_option linter.unusedSimpArgs false
set_option maxRecDepth 100000
set_option maxHeartbeats 16000000
namespace Go.Proofs.Ytabbabkmojaoaaa
open Go.RowKit
theorem kDw (w:World)(g:Nat)(T:kAy Int)(hk:kA5 T)(h0:0<T.low.length)(h:kAj val8 114 64 w g T):
  Calls Try.prog 60 #[.pointer (some ⟨g,0,none⟩)] w fun e w'=>e= .returned (.bool true)∧w=w':=by
 obtain⟨am,cm,al,cl,h1,h2,h3⟩:=h;have c2:=kAj.cell_low (val:=val8) hk h1
 have h0i:(0:Int)<(T.low.length:Int):=by omega
 have d0:decide ((0:Int)<(T.low.length:Int))=true:=decide_eq_true h0i
 have H1:=jH h1;clear h1
 have H2:=jH h2;clear h2
 have H3:=jH h3;clear h3
 clear hk;generalize T.low.length=n at*
 go_enter Try.func60,Try.ntmps60
 go_wp2
 go_ret
 exact⟨rfl,rfl⟩
theorem kC8 {P:Program}{ops:Array Oper}{w:World}{Q:Act→Prop}{rest:List Oper}{o:Oper}{a:Act}(hg:o.guard=none)(bo:BinOp)(t:TypeId)(x y:Operand)(t2:TypeId)(ho:o.op= .binOp bo t x y t2)(xv yv v:Value)(hx:a.eval x=xv)(hy:a.eval y=yv)
  (hG:(eqGuard bo t x y xv yv).run P w= .ok () w)(hr:(binOp bo t xv yv).run P w= .ok v w)(h:wpStill P ops w Q rest (a.put o.dst v)):wpStill P ops w Q (o :: rest) a:=by
 refine kFb hg ?_ h;unfold execOp;simp only[ho,hx,hy,Sem.run_bind,Sem.run_pure,Result.andThen_ok,hG,hr]
theorem kIr (xs ys:Array Value)(x y:Operand)(w:World):(eqGuard .neq 119 x y (.agg xs) (.agg ys)).run Try.prog w= .ok () w:=run_eqGuard_agg w .neq 119 x y xs ys (by kernel_rfl)
theorem kIx {P:Program}(w:World)(t:TypeId)(xs ys:Array Value)(b:Bool)(h:(Op.equal t (.agg xs) (.agg ys)).run P w= .ok b w):(binOp .neq t (.agg xs) (.agg ys)).run P w= .ok (.bool (!b)) w:=by
 simp[binOp,h]
theorem kGj (l m:List Int)(h:l.length=m.length):eqL (fun a b=>decide (a=b)) l m=decide (l=m):=by
 by_cases e:l=m
 ·rw[(kF4 l m h).2 e];simp[e]
 ·cases e2:eqL (fun a b=>decide (a=b)) l m
  ·simp[e]
  ·exact absurd ((kF4 l m h).1 e2) e
theorem kIy (l m:List Int)(hl:l.length=64)(hm:m.length=64)(w:World):(binOp .neq 119 (.agg (kAf val8 l).toArray) (.agg (kAf val8 m).toArray)).run Try.prog w= .ok (.bool (!decide (l=m))) w:=by
 have:= Try.k8.equal w l m hl hm;rw[kGj l m (by omega)]at this;exact kIx w _ _ _ _ this
def SaO (w:World) (T1 T2:kAy Int) (v:Value) (wr:World):Prop:=∃c:Nat,c≤272∧v= .int .i64 (c:Nat)∧(∀k,k<64*c→kBd T1 k=kBd T2 k)∧∃n,wr=w.drewN n
def SaI (w:World) (T1 T2:kAy Int) (c:Nat) (v:Value) (wr:World):Prop:=∃j:Nat,j≤64∧v= .int .i64 (j:Nat)∧(∀k,k<64*c+j→kBd T1 k=kBd T2 k)∧∃n,wr=w.drewN n
theorem kGr {T1 T2:kAy Int}(h1:kA5 T1)(h2:kA5 T2):(∀k,k<17408→kBd T1 k=kBd T2 k)↔∀r,r≤1114111→kAl 0 T1 r=kAl 0 T2 r:=by
 constructor
 ·intro h r hr;have e:=h (r / 64) (by omega);rw[show r=64*(r / 64)+r % 64 by omega,←kBs 0 T1 (r / 64) (r % 64) (by omega),←kBs 0 T2 (r / 64) (r % 64) (by omega),e]
 ·intro h k hk
  apply List.ext_getElem?
  intro j;have l1:=kBc h1 k hk;have l2:=kBc h2 k hk
  by_cases hj:j<64
  ·have:=h (64*k+j) (by omega);rw[←kBs 0 T1 k j hj,←kBs 0 T2 k j hj,kAn (by omega),kAn (by omega)]at this;rw[List.getElem?_eq_getElem (by omega),List.getElem?_eq_getElem (by omega),this]
  ·rw[List.getElem?_eq_none (by omega),List.getElem?_eq_none (by omega)]
structure TopC (w:World) (g:Nat) (T:kAy Int) (c cm cl i bm om bl ol:Nat):Prop where
 mid:w.cell? ⟨g,272,none⟩=some (.slice (some ⟨bm,om,none⟩) T.mid.length cm)
 low:w.cell? ⟨g,273,none⟩=some (.slice (some ⟨bl,ol,none⟩) T.low.length cl)
 top:w.cell? ⟨g,c,none⟩=some (.int .u16 (i:Nat))
 il:i<T.mid.length
 m:∀j,j<64→∃q,w.cell? ⟨bm,om+i*64+j,none⟩=some (.int .u16 (q:Nat))∧q<T.low.length∧w.rangeAt bl (ol+q*64) (kAf val8 (kBd T (64*c+j)))
theorem kNc {w:World}{g:Nat}{T:kAy Int}(hk:kA5 T)(h0:0<T.low.length)(h:kAj val8 114 64 w g T)(c:Nat)(hc:c<272):∃cm cl i bm om bl ol,TopC w g T c cm cl i bm om bl ol:=by
 obtain⟨am,cm,al,cl,h1,h2,h3⟩:=h;have ht:=kAj.cell_top (val:=val8) hk h1 c hc
 have htl:c<T.top.length:=by rw[hk.top];exact hc
 obtain⟨i,hi⟩:∃i,i=T.top.getD c 0:=⟨_,rfl⟩
 have hil:i<T.mid.length:=by
  rw[hi,kAn (d:=0) htl];exact hk.topN _ (List.getElem_mem htl)
 have hml:(T.mid[i]).length=64:=hk.mid _ (List.getElem_mem hil);obtain⟨bm,om,rfl⟩:=h2.some (by omega);obtain⟨bl,ol,rfl⟩:=h3.some h0;refine⟨cm,cl,i,bm,om,bl,ol,kAj.cell_mid (val:=val8) hk h1,kAj.cell_low (val:=val8) hk h1,by rw[ht,←hi];rfl,hil,fun j hj=> ?_⟩
 have hmj:j<(T.mid[i]).length:=by rw[hml];exact hj
 have hjl:(T.mid[i]).getD j 0<T.low.length:=by
  rw[kAn (d:=0) hmj];exact hk.midN _ (List.getElem_mem hil) _ (List.getElem_mem hmj)
 refine⟨(T.mid[i]).getD j 0,?_,hjl,?_⟩
 ·rw[h2.cell kA0 i hil j hmj,kAn (d:=0) hmj]
  rfl
 ·have e:kBd T (64*c+j)=T.low[(T.mid[i]).getD j 0]:=by
   unfold kBd;rw[show(64*c+j) / 64=c by omega,show(64*c+j) % 64=j by omega,←hi,kAn (d:=[]) hil,kAn (d:=[]) hjl]
  rw[e];exact h3.get _ hjl
theorem kGe (w:World)(g1 g2:Nat)(T1 T2:kAy Int)(hk1:kA5 T1)(hk2:kA5 T2)(h01:0<T1.low.length)(h02:0<T2.low.length)(ht1:kAj val8 114 64 w g1 T1)(ht2:kAj val8 114 64 w g2 T2):
  Calls Try.prog 26 #[.pointer (some ⟨g1,0,none⟩),.pointer (some ⟨g2,0,none⟩)] w fun e w'=>∃b n,e= .returned (.bool b)∧w'=w.drewN n∧(b=true↔∀r,r≤1114111→kAl 0 T1 r=kAl 0 T2 r):=by
 have HTh1:=jH (kDw w g1 T1 hk1 h01 ht1);have HTh2:=jH (kDw w g2 T2 hk2 h02 ht2);have HC1:=jH (kNc hk1 h01 ht1);have HC2:=jH (kNc hk2 h02 ht2);have HS:=jH (kGr hk1 hk2);have HL1:=jH (kBc hk1);have HL2:=jH (kBc hk2);have hm1:=hk1.midL;have hm2:=hk2.midL;have hl1:=hk1.lowL;have hl2:=hk2.lowL;clear ht1 ht2 hk1 hk2
 go_enter Try.func26,Try.ntmps26
 go_wp2_with fail
 refine HTh1.out.mono ?_;rintro e w1 ⟨rfl,rfl⟩
 go_wp2_with fail
 refine HTh2.out.mono ?_;rintro e w1 ⟨rfl,rfl⟩;go_wp2
 go_loopw [17] (SaO w T1 T2) (fun i _=>272 - (intOf i).toNat)
 case atStart=>exact⟨0,Nat.zero_le _,rfl,fun k hk=>by omega,0,rfl⟩
 case round=>
  obtain⟨c,hc,rfl,hsame,q,rfl⟩:=hrel
  have HSm:=jH hsame;clear hsame
  by_cases hcn:c<272
  ·have hci:(c:Int)<272:=by omega
   obtain⟨cm1,cl1,i1,bm1,om1,bl1,ol1,hc1⟩:=HC1.out c hcn;obtain⟨cm2,cl2,i2,bm2,om2,bl2,ol2,hc2⟩:=HC2.out c hcn;have p1:w.cell? ⟨g1,272,none⟩=_:=hc1.mid;have p2:w.cell? ⟨g1,c,none⟩=_:=hc1.top;have p3:w.cell? ⟨g2,272,none⟩=_:=hc2.mid;have p4:w.cell? ⟨g2,c,none⟩=_:=hc2.top;have i1l:=hc1.il;have i2l:=hc2.il
   have H1:=jH hc1;clear hc1
   have H2:=jH hc2;clear hc2
   generalize hnm1:T1.mid.length=nm1 at*;generalize hnm2:T2.mid.length=nm2 at*;have HN:=jH (And.intro hnm1 hnm2);clear hnm1 hnm2
   have g1':(0:Int)≤(i1:Int):=by omega
   have g2':(i1:Int)<(nm1:Int):=by omega
   have g3':(0:Int)≤(i2:Int):=by omega
   have g4':(i2:Int)<(nm2:Int):=by omega
   have g5':(0:Int)≤(c:Int):=by omega
   go_wp2
   go_quiet (fail)
   clear p1 p2 p3 p4;go_wp2
   go_loopw [42] (SaI w T1 T2 c) (fun i _=>64 - (intOf i).toNat)
   case atStart=>exact⟨0,Nat.zero_le _,rfl,HSm.out,q+nq,by rw[World.drewN_drewN]⟩
   case round=>
    obtain⟨j,hj,rfl,hsame,q,rfl⟩:=hrel
    have HSm2:=jH hsame;clear hsame
    by_cases hjn:j<64
    ·have hji:(j:Int)<64:=by omega
     obtain⟨k1,m1,l1,r1⟩:=H1.out.m j hjn;obtain⟨k2,m2,l2,r2⟩:=H2.out.m j hjn;have p1:(w.drewN q).cell? ⟨g1,273,none⟩=_:=H1.out.low;have p3:(w.drewN q).cell? ⟨g2,273,none⟩=_:=H2.out.low;have m1:(w.drewN q).cell? ⟨bm1,om1+i1*64+j,none⟩=_:=m1;have m2:(w.drewN q).cell? ⟨bm2,om2+i2*64+j,none⟩=_:=m2;have r1:(w.drewN q).rangeAt bl1 (ol1+k1*64) (kAf val8 (kBd T1 (64*c+j))):=r1;have r2:(w.drewN q).rangeAt bl2 (ol2+k2*64) (kAf val8 (kBd T2 (64*c+j))):=r2
     obtain⟨wr,hwr⟩:∃wr,wr=w.drewN q:=⟨_,rfl⟩
     rw[←hwr]at p1 p3 m1 m2 r1 r2 ⊢
     have HWr:=jH hwr;clear hwr
     have e1:=HL1.out (64*c+j) (by omega);have e2:=HL2.out (64*c+j) (by omega)
     obtain⟨b1,hb1⟩:∃b1,b1=kBd T1 (64*c+j):=⟨_,rfl⟩
     obtain⟨b2,hb2⟩:∃b2,b2=kBd T2 (64*c+j):=⟨_,rfl⟩
     rw[←hb1]at e1 r1;rw[←hb2]at e2 r2
     have hs1:(kAf val8 b1).length=64:=by rw[kAh (sz:=1) (fun _=>rfl),e1]
     have hs2:(kAf val8 b2).length=64:=by rw[kAh (sz:=1) (fun _=>rfl),e2]
     have R1:=jH r1;clear r1
     have R2:=jH r2;clear r2
     have HB:=jH (And.intro hb1 hb2);clear hb1 hb2
     generalize hnl1:T1.low.length=nl1 at*;generalize hnl2:T2.low.length=nl2 at*;clear hnl1 hnl2
     have g1':(0:Int)≤(k1:Int):=by omega
     have g2':(k1:Int)<(nl1:Int):=by omega
     have g3':(0:Int)≤(k2:Int):=by omega
     have g4':(k2:Int)<(nl2:Int):=by omega
     have g5':(0:Int)≤(j:Int):=by omega
     go_upto_region 10 with(fail)
     refine wp_region_still_lit (by kernel_rfl) (by kernel_rfl) ?_
     iterate 10 still_step
     refine kAw rfl 119 (.tmp 54) rfl bl1 (ol1+k1*64) rfl (kAf val8 b1) _ (show(wr.drew).rangeAt bl1 (ol1+k1*64) (kAf val8 b1)from R1.out) Try.underlying119 rfl (by rw[hs1];kernel_rfl) ?_
     iterate 10 still_step
     refine kAw rfl 119 (.tmp 65) rfl bl2 (ol2+k2*64) rfl (kAf val8 b2) _ (show(wr.drew).rangeAt bl2 (ol2+k2*64) (kAf val8 b2)from R2.out) Try.underlying119 rfl (by rw[hs2];kernel_rfl) ?_;refine kC8 rfl .neq 119 (.tmp 55) (.tmp 66) _ rfl (.agg (kAf val8 b1).toArray) (.agg (kAf val8 b2).toArray) _ rfl rfl (kIr _ _ _ _ _) (kIy b1 b2 e1 e2 _) ?_;refine wpStill_nil ?_;clear p1 p3 m1 m2
     by_cases hbb:b1=b2
     ·have hd:decide (b1=b2)=true:=decide_eq_true hbb;rw[hd]
      have HSm3:Hid (∀k,k<64*c+(j+1)→kBd T1 k=kBd T2 k):=jH (fun k hk=>by
       by_cases e:k=64*c+j
       ·rw[e,←HB.out.1,←HB.out.2,hbb]
       ·exact HSm2.out k (by omega))
      clear hbb hd;go_wp2
      go_roundw
      case rel=>exact⟨j+1,by omega,by go_num,HSm3.out,q+1,by rw[HWr.out];rfl⟩
      case measure=>simp[intOf];omega
     ·have hd:decide (b1=b2)=false:=decide_eq_false hbb;rw[hd];have HNe:Hid (¬ ∀r,r≤1114111→kAl 0 T1 r=kAl 0 T2 r):=jH (fun h=>hbb (by rw[HB.out.1,HB.out.2];exact HS.out.2 h _ (by omega)));clear hbb hd;go_wp2
      go_ret
      exact⟨false,q+1,rfl,by rw[HWr.out];rfl,fun h=>absurd h (by simp),fun h=>absurd h HNe.out⟩
    ·obtain rfl:j=64:=by omega
     have HSm3:Hid (∀k,k<64*(c+1)→kBd T1 k=kBd T2 k):=jH HSm2.out;go_wp2
     go_roundw
     case rel=>exact⟨c+1,by omega,by go_num,HSm3.out,q,rfl⟩
     case measure=>simp[intOf];omega
  ·obtain rfl:c=272:=by omega
   have HSe:=jH (HS.out.1 HSm.out);go_wp2
   go_ret
   exact⟨true,q,rfl,rfl,fun _=>HSe.out,fun _=>rfl⟩
end Go.Proofs.Ytabbabkmojaoaaa

namespace Go.Proofs.Ytabbabkmojaoaaa
open Go.RowKit
theorem kHg (xs ys:Array Value)(x y:Operand)(w:World):(eqGuard .eql 119 x y (.agg xs) (.agg ys)).run Try.prog w= .ok () w:=run_eqGuard_agg w .eql 119 x y xs ys (by kernel_rfl)
theorem kIs {P:Program}(w:World)(t:TypeId)(xs ys:Array Value)(b:Bool)(h:(Op.equal t (.agg xs) (.agg ys)).run P w= .ok b w):(binOp .eql t (.agg xs) (.agg ys)).run P w= .ok (.bool b) w:=by
 simp[binOp,h]
theorem kIt (l:List Int)(hl:l.length=64)(w:World):(binOp .eql 119 (.agg (kAf val8 l).toArray) (.agg (kAf val8 l).toArray)).run Try.prog w= .ok (.bool true) w:=by
 have:= Try.k8.equal w l l hl hl;rw[kGj l l rfl]at this
 simpa using kIs w _ _ _ _ this
structure kGd (w:World) (g bt:Nat) (T:kAy Int):Prop where
 tr:kAj val8 114 64 w g T
 tp:T.top.length=272
 ml:∀m∈T.mid,m.length=64
 ll:∀l∈T.low,l.length=64
 mn:T.mid.length≤1048576
 ln:T.low.length≤1048576
 ct:w.cell? ⟨bt,0,none⟩=some (.pointer (some ⟨g,0,none⟩))
theorem kGd.below {w w':World}{g bt:Nat}{T:kAy Int}(h:kGd w g bt T)(hb:Below w.heap.size w w'):kGd w' g bt T:=
 ⟨h.tr.below hb jR,h.tp,h.ml,h.ll,h.mn,h.ln,(hb.cell (p:=⟨bt,0,none⟩) (World.block_lt_of_cell? w _ h.ct)).trans h.ct⟩
theorem kGd.low {w:World}{g bt:Nat}{T:kAy Int}(h:kGd w g bt T):∃a c,w.cell? ⟨g,273,none⟩=some (.slice a T.low.length c)∧kAg val8 64 w a T.low:=by
 obtain⟨am,cm,al,cl,h1,h2,h3⟩:=h.tr;refine⟨al,cl,?_,h3⟩;rw[jK w g 273 _ _ (0,0) h1];simp[kD7,h.tp]
theorem kGd.mid {w:World}{g bt:Nat}{T:kAy Int}(h:kGd w g bt T):∃a c,w.cell? ⟨g,272,none⟩=some (.slice a T.mid.length c)∧kAg kAb 64 w a T.mid:=by
 obtain⟨am,cm,al,cl,h1,h2,h3⟩:=h.tr;refine⟨am,cm,?_,h2⟩;rw[jK w g 272 _ _ (0,0) h1];simp[kD7,h.tp]
theorem kDu (w:World)(g bt:Nat)(T:kAy Int)(h:kGd w g bt T)(no:Nat)(hno:no<T.low.length):
  Calls Try.prog 92 #[.int .u16 (no:Nat),.pointer (some ⟨bt,0,none⟩)] w fun e w'=>e= .returned (.bool true)∧Below w.heap.size w w':=by
 obtain⟨a,c,c1,hbl⟩:=h.low;obtain⟨b,o,rfl⟩:=hbl.some (by omega);have HR:=jH (hbl.get no hno);have hl:=h.ll _ (List.getElem_mem hno);have c0:=h.ct;have hln:=h.ln;clear h hbl;generalize T.low[no]=l at*;generalize T.low.length=nl at*
 have hs:(kAf val8 l).length=64:=by rw[kAh (sz:=1) (fun _=>rfl),hl]
 have g1:(0:Int)≤(no:Int):=by omega
 have g2:(no:Int)<(nl:Int):=by omega
 go_enter Try.func92,Try.ntmps92
 go_upto_region 1 with(fail)
 refine wp_region_still_lit (by kernel_rfl) (by kernel_rfl) ?_
 iterate 6 still_step
 refine kAw rfl 119 (.tmp 9) rfl b (o+no*64) rfl (kAf val8 l) _ (show w.drew.rangeAt b (o+no*64) (kAf val8 l)from HR.out) Try.underlying119 rfl (by rw[hs];kernel_rfl) ?_
 iterate 6 still_step
 refine kAw rfl 119 (.tmp 16) rfl b (o+no*64) rfl (kAf val8 l) _ (show w.drew.rangeAt b (o+no*64) (kAf val8 l)from HR.out) Try.underlying119 rfl (by rw[hs];kernel_rfl) ?_;refine kC8 rfl .eql 119 (.tmp 10) (.tmp 17) _ rfl (.agg (kAf val8 l).toArray) (.agg (kAf val8 l).toArray) _ rfl rfl (kHg _ _ _ _ _) (kIt l hl _) ?_
 still_step
 refine wpStill_nil ?_;go_wp2
 go_ret
 exact⟨rfl,(Below.refl _ w).drew⟩
theorem kFy (w:World)(g bt b5:Nat)(T:kAy Int)(h:kGd w g bt T)(no:Nat)(hno:no<T.low.length)(h5:w.cell? ⟨b5,0,none⟩=some (.func (.func 92) #[] #[.pointer (some ⟨bt,0,none⟩)])):
  Calls Try.prog 95 #[.int .u16 (no:Nat),.pointer (some ⟨b5,0,none⟩)] w fun e w'=>e= .returned (.bool false)∧Below w.heap.size w w':=by
 have HS:=jH (kDu w g bt T h no hno);clear h
 go_enter Try.func95,Try.ntmps95
 go_wp2_with fail
 refine HS.out.mono ?_;rintro e w1 ⟨rfl,hb⟩
 have HB:=jH hb;clear hb
 go_wp2
 go_ret
 exact⟨rfl,HB.out⟩
theorem kFx (w:World)(g bt b5:Nat)(T:kAy Int)(h:kGd w g bt T)(no:Nat)(hno:no<T.mid.length)(hmid:∀m∈T.mid,∀k∈m,k<T.low.length)(h5:w.cell? ⟨b5,0,none⟩=some (.func (.func 92) #[] #[.pointer (some ⟨bt,0,none⟩)])):
  Calls Try.prog 93 #[.int .u16 (no:Nat),.pointer (some ⟨bt,0,none⟩),.pointer (some ⟨b5,0,none⟩)] w fun e w'=>e= .returned (.bool true)∧Below w.heap.size w w':=by
 obtain⟨a,c,c1,hbl⟩:=h.mid;obtain⟨b,o,rfl⟩:=hbl.some (by omega);have hl:=h.ml _ (List.getElem_mem hno);have HNA:Hid (kCm w (some ⟨b,o+no*64,none⟩) T.mid[no]):=jH (fun i hi=>⟨b,o+no*64,rfl,hbl.cell kA0 no hno i hi⟩)
 have HCf:=jH (kEa w b (o+no*64) 64 64 T.mid[no] 95 #[.pointer (some ⟨b5,0,none⟩)] hl (by omega) HNA.out (enters_of Try.func95 (by kernel_rfl) rfl)
  (fun x W hx hb=>kFy W g bt b5 T (h.below hb) x (hmid _ (List.getElem_mem hno) x hx) ((hb.cell (p:=⟨b5,0,none⟩) (World.block_lt_of_cell? w _ h5)).trans h5)))
 have c0:=h.ct;have hmn:=h.mn;clear h hbl hl hmid HNA;generalize T.mid.length=nm at*
 have g1:(0:Int)≤(no:Int):=by omega
 have g2:(no:Int)<(nm:Int):=by omega
 go_enter Try.func93,Try.ntmps93
 go_wp2_with fail
 refine HCf.out.mono ?_;rintro e w1 ⟨rfl,hb⟩
 have HB:=jH hb;clear hb
 go_wp2
 go_ret
 exact⟨rfl,HB.out⟩
end Go.Proofs.Ytabbabkmojaoaaa

namespace Go.Proofs.Ytabbabkmojaoaaa
open Go.RowKit
attribute [local go_sem] Oper.semAt_some kEq
theorem kEw {w W:World}(h:Below w.heap.size w W):kHt w W:=fun k hk=>h.block k hk
theorem kCk (w:World)(x:Value)(t:TypeId):Below w.heap.size w (w.alloc (.cells #[x] t))∧(w.alloc (.cells #[x] t)).heap[w.heap.size]? =some (.cells #[x] t (0,0))∧(w.alloc (.cells #[x] t)).heap.size=w.heap.size+1:=
 ⟨(Below.refl _ w).alloc jR _,jN w _,World.size_alloc w _⟩
theorem kG1 {w:World}{b:Nat}{x:Value}{t:TypeId}(h:w.heap[b]? =some (.cells #[x] t (0,0))):w.cell? ⟨b,0,none⟩=some x:=jK w b 0 _ _ (0,0) h
theorem kHc (w:World)(x y:Value)(t:TypeId):Below w.heap.size w ((w.alloc (.cells #[x] t)).setRow w.heap.size #[y])∧((w.alloc (.cells #[x] t)).setRow w.heap.size #[y]).heap[w.heap.size]? =some (.cells #[y] t (0,0))∧((w.alloc (.cells #[x] t)).setRow w.heap.size #[y]).heap.size=w.heap.size+1:=by
 obtain⟨f1,f2,f3⟩:=kCk w x t;refine⟨⟨f1.os,f1.tape,f1.output,by rw[setRow_size];exact f1.size,fun k hk=>by rw[setRow_other _ w.heap.size k _ (by omega)];exact f1.block k hk⟩,setRow_heap _ w.heap.size _ #[y] _ _ f2,by rw[setRow_size];exact f3⟩
theorem kMe (v:Int)(w:World):Calls Try.prog 27 #[.int .u8 v] w fun e w'=>e= .returned (.int .u8 v)∧Below w.heap.size w w':=by
 go_enter Try.func27,Try.ntmps27
 go_wp2
 go_ret
 exact⟨rfl,Below.refl _ _⟩
end Go.Proofs.Ytabbabkmojaoaaa
