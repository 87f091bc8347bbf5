/- several texts in one: TZS SPS -/
import Derived.Test.YtabbabkmojaoaaaOD
import Derived.RangeFuncBound
import Derived.OwnWalkIn
import Derived.TacticsInMore
import Derived.LoopNIn
import Derived.LoopIn
import Derived.Deep.Cut
import Derived.Test.YtabbabkmojaoaaaNH
set_option linter.unusedVariables false
set_option linter.unusedSimpArgs false
set_option maxRecDepth 100000
set_option maxHeartbeats 16000000
namespace Go.Proofs.Ytabbabkmojaoaaa.VS
open Go.RowKit
attribute [local go_sem] Oper.semAt_some
theorem kEi (w0:World)(g:Nat)(T:kAy El)(hk:kA5 T)(h0:0<T.low.length)(ht:kAj val8 138 64 w0 g T)(cf:Nat)(lb:Array Value)(J:Nat→World→Prop)(Jx:World→Prop)(w:World)(eg:∀args W,(callFunc cf args).run Try.prog W= .ok (.enter cf args) W)
  (hJ:∀k W,J k W→kHt w0 W)
  (hcall:∀k W (b o:Nat),k<17408→J k W→w0.rangeAt b o (kAf val8 (kBd T k))→
   Calls Try.prog cf (#[.pointer (some ⟨b,o,none⟩)]++lb) W fun e W'=>(e= .returned (.bool true)∧J (k+1) W')∨(e= .returned (.bool false)∧Jx W'))
  (h1:J 0 w):
  Calls Try.prog 118 #[.pointer (some ⟨g,0,none⟩),.func (.func cf) #[] lb] w fun e w'=>(∃v,e= .returned v)∧(J 17408 w'∨Jx w'):=by
 have HJ:=jH hJ;clear hJ
 have HCl:=jH hcall;clear hcall
 have H1:=jH h1;clear h1
 have HEg:=jH eg;clear eg
 have HK:=jH hk;clear hk
 obtain⟨am,cm,al,cl,hh1,hh2,hh3⟩:=ht
 have HG1:=jH hh1;have HG2:=jH hh2;have HG3:=jH hh3
 clear hh1 hh2 hh3;have hh1:=(HJ.out 0 w H1.out).block HG1.out
 have HR0:Hid (w.rangeAt g 0 (kAf kAb T.top)):=jH (by
  intro j v hv
  have hjl:j<T.top.length:=by
   have:=(List.getElem?_eq_some_iff.1 hv).1;rw[kAh (sz:=1) (fun _=>rfl)]at this;omega
  rw[Nat.zero_add,kAj.cell_top (val:=val8) HK.out hh1 j (by rw[←HK.out.top];exact hjl),kAn (d:=0) hjl,←hv,kCe kA0 _ j hjl])
 have hts:(kAf kAb T.top).length=272:=by rw[kAh (sz:=1) (fun _=>rfl),HK.out.top]
 clear hh1
 go_enter Try.func118,Try.ntmps118
 go_upto_region 0 with(fail)
 refine wp_region_list ?_;refine kAc (v:= .pointer (some ⟨g,0,none⟩)) (w':=w) rfl (by rfl) ?_;refine kAc (v:= .pointer (some ⟨g,0,none⟩)) (w':=w) rfl (by rfl) ?_;refine kAc (v:= .pointer (some ⟨g,0,none⟩)) (w':=w) rfl (by go_simp) ?_;refine wpList_load_mid rfl 110 (.tmp 10) rfl g 0 rfl (kAf kAb T.top) (.array 272 91) HR0.out Try.underlying110 rfl (by rw[hts];kernel_rfl) ?_
 have HTop:Hid (∀c,c<272→(kAf kAb T.top).toArray[c]? =some (kAb (T.top.getD c 0))):=jH (fun c hc=>by
  have hcl:c<T.top.length:=by rw[HK.out.top];exact hc
  rw[List.getElem?_toArray,kCe kA0 _ c hcl,kAn (d:=0) hcl])
 generalize (kAf kAb T.top).toArray=top at*;clear hts HR0;go_wp2
 go_loopw [12] (BlO J) (fun i _=>272 - (intOf i).toNat)
 case atStart=>exact⟨0,Nat.zero_le _,rfl,H1.out⟩
 case round=>
  obtain⟨c,hc,rfl,hj⟩:=hrel
  have HJc:=jH hj;clear hj
  by_cases hcn:c<272
  ·have hci:(c:Int)<272:=by omega
   have a1:=kGa top c _ hcn (HTop.out c hcn) wr
   have htl:c<T.top.length:=by rw[HK.out.top];exact hcn
   have hil:T.top.getD c 0<T.mid.length:=by rw[kAn (d:=0) htl];exact HK.out.topN _ (List.getElem_mem htl)
   obtain⟨i,hi⟩:∃i,i=T.top.getD c 0:=⟨_,rfl⟩
   rw[←hi]at a1 hil
   have HI:=jH hi;clear hi
   have hly:=HJ.out _ _ HJc.out;have c1:=kAj.cell_mid (val:=val8) HK.out (hly.block HG1.out);obtain⟨bm,om,rfl⟩:=HG2.out.some (by omega);have HR:=jH (hly.range (HG2.out.get i hil));clear hly;have hml:(T.mid[i]).length=64:=HK.out.mid _ (List.getElem_mem hil)
   have hms:(kAf kAb T.mid[i]).length=64:=by rw[kAh (sz:=1) (fun _=>rfl),hml]
   have hnm:T.mid.length≤272:=HK.out.midL
   have HMid:Hid (∀j,j<64→(kAf kAb T.mid[i]).toArray[j]? =some (kAb ((T.mid.getD i []).getD j 0))):=jH (fun j hj=>by
    rw[List.getElem?_toArray,kCe kA0 _ j (by omega),kAn (d:=[]) hil,kAn (d:=0) (by omega)])
   unfold kAb at a1
   have g1:(0:Int)≤(i:Int):=by omega
   have g2:(i:Int)<((T.mid.length:Nat):Int):=by omega
   generalize hnn:T.mid.length=nm at c1 g2 hnm;clear hnn
   go_upto_region 3 with(fail)
   refine wp_region_list ?_;refine kAc (v:= .pointer (some ⟨g,0,none⟩)) (w':=wr) rfl (by rfl) ?_;refine kAc (v:= .pointer (some ⟨g,0,none⟩)) (w':=wr) rfl (by rfl) ?_;refine kAc (v:= .pointer (some ⟨g,272,none⟩)) (w':=wr) rfl (by go_simp) ?_;refine kAc (v:= .slice (some ⟨bm,om,none⟩) nm cm) (w':=wr) rfl (by go_simp) ?_;refine kAc (v:= .int .u16 (i:Nat)) (w':=wr) rfl (by rfl) ?_;refine kAc (v:= .pointer (some ⟨bm,om+i*64,none⟩)) (w':=wr) rfl (by go_simp) ?_;refine wpList_load_mid rfl 120 (.tmp 20) rfl bm (om+i*64) rfl (kAf kAb T.mid[i]) (.array 64 91) HR.out Try.underlying120 rfl (by rw[hms];kernel_rfl) ?_;generalize (kAf kAb T.mid[i]).toArray=mid at*;clear hms HR c1 g1 g2 hnm a1;go_wp2
   go_loopw [22] (BlI J c) (fun i _=>64 - (intOf i).toNat)
   case atStart=>exact⟨0,Nat.zero_le _,rfl,HJc.out⟩
   case round=>
    obtain⟨j,hj,rfl,hjj⟩:=hrel
    have HJj:=jH hjj;clear hjj
    by_cases hjn:j<64
    ·have hji:(j:Int)<64:=by omega
     have b1:=kF9 mid j _ hjn (HMid.out j hjn) wr;have hly:=HJ.out _ _ HJj.out;have c2:=kAj.cell_low (val:=val8) HK.out (hly.block HG1.out);clear hly
     have hkk:64*c+j<17408:=by omega
     have hLow:kBd T (64*c+j)=T.low.getD ((T.mid.getD i []).getD j 0) []:=by
      unfold kBd;rw[show(64*c+j) / 64=c by omega,show(64*c+j) % 64=j by omega,←HI.out]
     have hmj:j<(T.mid[i]).length:=by rw[hml];exact hjn
     have hll:(T.mid.getD i []).getD j 0<T.low.length:=by
      rw[kAn (d:=[]) hil,kAn (d:=0) hmj];exact HK.out.midN _ (List.getElem_mem hil) _ (List.getElem_mem hmj)
     obtain⟨q,hq⟩:∃q,q=(T.mid.getD i []).getD j 0:=⟨_,rfl⟩
     rw[←hq]at b1 hLow hll;obtain⟨bl,ol,rfl⟩:=HG3.out.some (by omega)
     have HRl:Hid (w0.rangeAt bl (ol+q*64) (kAf val8 (kBd T (64*c+j)))):=jH (by
      rw[hLow,kAn (d:=[]) hll]
      exact HG3.out.get q hll)
     have hnl:T.low.length≤17408:=HK.out.lowL;clear hq hLow;unfold kAb at b1
     have g3:(0:Int)≤(q:Int):=by omega
     have g4:(q:Int)<((T.low.length:Nat):Int):=by omega
     generalize hnn:T.low.length=nl at c2 g4 hnl;clear hnn hll hmj hil hml;have heg:=HEg.out
     go_wp2_with fail
     refine(HCl.out (64*c+j) wr bl (ol+q*64) hkk HJj.out HRl.out).mono ?_
     rintro e w5 (⟨rfl,h5⟩ | ⟨rfl,h5⟩)
     ·have H5:=jH h5;clear h5 heg
      go_wp2
      go_roundw
      case rel=>exact⟨j+1,by omega,by go_num,by rw[←Nat.add_assoc];exact H5.out⟩
      case measure=>simp[intOf];omega
     ·have H5:=jH h5;clear h5 heg
      go_wp2
      refine jS (results_none rfl _ _ _) rfl ?_;exact⟨⟨_,rfl⟩,.inr H5.out⟩
    ·obtain rfl:j=64:=by omega
     have HJ6:Hid (J (64*(c+1)) wr):=jH HJj.out;go_wp2
     go_roundw
     case rel=>exact⟨c+1,by omega,by go_num,HJ6.out⟩
     case measure=>simp[intOf];omega
  ·obtain rfl:c=272:=by omega
   have hJ2:J 17408 wr:=HJc.out
   have HJ2:=jH hJ2;clear hJ2
   go_wp2
   go_end0
   exact⟨⟨_,rfl⟩,.inl HJ2.out⟩
end Go.Proofs.Ytabbabkmojaoaaa.VS

namespace Go.Proofs.Ytabbabkmojaoaaa.VS
open Go.RowKit
attribute [local go_sem] Oper.semAt_some
def neV:El→El→Bool:=fun a b=> !ByteArray.toList (a)==ByteArray.toList (b)
def kJi (s:kA2 El):Array Value:= #[.agg #[.int .i32 (s.f:Nat),.int .i32 (s.t:Nat),val8 s.v]]
def kEr (ne:El→El→Bool) (f:Nat→El) (n:Nat):List Value:=if n=0 then [.int .i32 0,.int .i32 (-1),val8 (f 0)]else [.int .i32 ((spT ne f n).2:Nat),.int .i32 ((n - 1:Nat):Int),val8 (f (spT ne f n).2)]
structure kFc (J:(Nat→Prop)→List (kA2 El)→World→Prop) (w0:World) (ne:El→El→Bool) (f:Nat→El) (l bt bn bm n:Nat) (wr:World):Prop where
 j:J (fun k=>k=bt∨k=bn∨k=bm) (spT ne f n).1 wr
 lies:kHt w0 wr
 ct:wr.heap[bt]? =some (.cells #[.func (.yield l) #[] #[]] 219 (0,0))
 cn:wr.heap[bn]? =some (.cells (kEr ne f n).toArray 163 (0,0))
 cm:wr.heap[bm]? =some (.cells #[.bool true] 4 (0,0))
def SpR (J:(Nat→Prop)→List (kA2 El)→World→Prop) (w0:World) (ne:El→El→Bool) (f:Nat→El) (l bt bn bm k:Nat) (i:Value) (wr:World):Prop:=
 ∃j:Nat,j≤64∧i= .int .i64 (j:Nat)∧kFc J w0 ne f l bt bn bm (64*k+j) wr
def SpY (J Jx:(Nat→Prop)→List (kA2 El)→World→Prop) (R:Nat→Prop) (full:List (kA2 El)) (l:Nat):Prop:=
 ∀T pre x W1,J T pre W1→pre.length<full.length→pre++[x]=full.take (pre.length+1)→YieldAt Fence.wide 1 Try.prog l (kJi x) W1 fun e W'=>
   (e= .returned (.bool true)∧J T (pre++[x]) W'∧kDc T R W1 W')∨(e= .returned (.bool false)∧Jx T (pre++[x]) W'∧kDc T (fun _=>False) W1 W')
theorem kFc.put {J:(Nat→Prop)→List (kA2 El)→World→Prop}{w0:World}{ne:El→El→Bool}{f:Nat→El}{l bt bn bm n:Nat}{wr wr':World}(h:kFc J w0 ne f l bt bn bm n wr)(hJ:kD8 J)(hg:wr.grownBy wr' (some bn))(h1:bt≠bn)(h2:bm≠bn)(h0:w0.heap.size≤bn)(m:Nat)
  (hm:(spT ne f m).1=(spT ne f n).1)(hc:wr'.heap[bn]? =some (.cells (kEr ne f m).toArray 163 (0,0))):kFc J w0 ne f l bt bn bm m wr':=by
 have oth:∀k,k<wr.heap.size→k≠bn→wr'.heap[k]? =wr.heap[k]? :=fun k hk hne=>hg.block k hk (fun e=>hne (by simpa using e))
 have z1:=(jL h.ct)
 have z2:=(jL h.cn)
 have z3:=(jL h.cm)
 exact⟨hm ▸ hJ _ _ _ _ _ h.j (Off.of_grown hg (fun k e=>by cases e;exact .inr (.inl rfl))) (kB4.refl _ _ _),fun k hk=>(oth k (by omega) (by omega)).trans (h.lies k hk),(oth bt z1 h1).trans h.ct,hc,(oth bm z3 h2).trans h.cm⟩
theorem kFc.kept {J:(Nat→Prop)→List (kA2 El)→World→Prop}{w0:World}{ne:El→El→Bool}{f:Nat→El}{l bt bn bm n:Nat}{wr W:World}{R:Nat→Prop}(h:kFc J w0 ne f l bt bn bm n wr)(hR0:∀k,k<w0.heap.size→R k)
  (hk:kDc (fun k=>k=bt∨k=bn∨k=bm) R wr W)(h0:w0.heap.size≤wr.heap.size):
  kHt w0 W∧W.heap[bt]? =some (.cells #[.func (.yield l) #[] #[]] 219 (0,0))∧W.heap[bn]? =some (.cells (kEr ne f n).toArray 163 (0,0))∧W.heap[bm]? =some (.cells #[.bool true] 4 (0,0)):=
 ⟨fun k hk'=>(hk.block k (by omega) (.inr (hR0 k hk'))).trans (h.lies k hk'),hk.below h.ct (.inl (.inl rfl)),hk.below h.cn (.inl (.inr (.inl rfl))),hk.below h.cm (.inl (.inr (.inr rfl)))⟩
theorem kFa (J Jx:(Nat→Prop)→List (kA2 El)→World→Prop)(R:Nat→Prop)(w0:World)(f:Nat→El)(l bt bn bm k N:Nat)(hN:N=1114112)(W:World)(b o:Nat)(bs:List El)(hkk:k<17408)(hbl:bs.length=64)(hbs:∀j,j<64→bs.getD j ByteArray.empty=f (64*k+j))
  (hJ:kD8 J)(hJx:kD8 Jx)(hY:SpY J Jx R (spL neV f N) l)(hR0:∀k,k<w0.heap.size→R k)(h1:bt≠bn)(h2:bm≠bn)(h3:bt≠bm)(h0n:w0.heap.size≤bn)(h0m:w0.heap.size≤bm)(hb:w0.rangeAt b o (kAf val8 bs))(hst:kFc J w0 neV f l bt bn bm (64*k) W):
  Calls Try.prog 119 #[.pointer (some ⟨b,o,none⟩),.pointer (some ⟨bn,0,none⟩),.pointer (some ⟨bt,0,none⟩),.pointer (some ⟨bm,0,none⟩)] W fun e W'=>
   (e= .returned (.bool true)∧kFc J w0 neV f l bt bn bm (64*(k+1)) W')∨(e= .returned (.bool false)∧(∃T q,0<q∧q≤(spL neV f N).length∧Jx T ((spL neV f N).take q) W')∧W'.heap[bm]? =some (.cells #[.bool false] 4 (0,0))):=by
 have HN:=jH hN;clear hN
 have HJ:=jH hJ;clear hJ
 have HJx:=jH hJx;clear hJx
 have HY:=jH hY;clear hY
 have HR0:=jH hR0;clear hR0
 have HB:=jH hb;clear hb
 have HBs:=jH hbs;clear hbs
 have HS:=jH hst;clear hst
 have HNe:=jH (And.intro h1 (And.intro h2 h3));clear h1 h2 h3
 go_enter Try.func119,Try.ntmps119
 go_wp2
 go_loopw [10] (SpR J w0 neV f l bt bn bm k) (fun i _=>64 - (intOf i).toNat)
 case atStart=>exact⟨0,Nat.zero_le _,rfl,HS.out⟩
 case round=>
  obtain⟨j,hj,rfl,hst⟩:=hrel
  have HST:=jH hst;clear hst
  by_cases hjn:j<64
  ·have hji:(j:Int)<64:=by omega
   have q0:wr.cell? ⟨b,o+j,none⟩=some (val8 (f (64*k+j))):=by
    have hjl:j<bs.length:=by omega
    rw[HST.out.lies.range HB.out j _ (kCe kBt bs j hjl),←HBs.out j hjn,kAn (d:=ByteArray.empty) hjl]
   have HJn:Hid (j<64):=jH hjn
   obtain⟨n,hn⟩:∃n,n=64*k+j:=⟨_,rfl⟩
   have hnN:n<1114112:=by omega
   rw[←hn]at q0 HST;have q2:wr.cell? ⟨bt,0,none⟩=some (.func (.yield l) #[] #[]):=jK wr bt 0 _ _ (0,0) HST.out.ct;have q3:wr.cell? ⟨bm,0,none⟩=some (.bool true):=jK wr bm 0 _ _ (0,0) HST.out.cm;have q4:=jO wr bm 0 _ _ HST.out.cm;have p0:=jK wr bn 0 _ _ (0,0) HST.out.cn;have p1:=jK wr bn 1 _ _ (0,0) HST.out.cn;have p2:=jK wr bn 2 _ _ (0,0) HST.out.cn;have f0:=jO wr bn 0 _ _ HST.out.cn;have f1:=jO wr bn 1 _ _ HST.out.cn;have f2:=jO wr bn 2 _ _ HST.out.cn
   have hsz:w0.heap.size≤wr.heap.size:=by have:=(jL HST.out.cn);omega
   have HNn:=jH hn;clear hn
   unfold val8 at q0
   by_cases hn0:n=0
   ·have e:kEr neV f n=[.int .i32 0,.int .i32 (-1),val8 (f 0)]:=by unfold kEr;rw[if_pos hn0]
    rw[e]at p0 p1 p2;simp only[jG,jI,jJ]at p0 p1 p2
    have HSt:Hid (kFc J w0 neV f l bt bn bm 1 (wr.setCell ⟨bn,1,none⟩ (.int .i32 0))):=jH (by
     refine HST.out.put HJ.out (kAe wr bn 1 _) HNe.out.1 HNe.out.2.1 h0n 1 (by rw[hn0,kFn];rfl) ?_;rw[jP wr bn 1 _ _ _ HST.out.cn,e]
     have e1:kEr neV f 1=[.int .i32 0,.int .i32 0,val8 (f 0)]:=by unfold kEr;rw[if_neg (by omega),kFn];rfl
     rw[e1]
     rfl)
    rw[hn0]at q0
    have HE0:=jH hn0;clear hn0 e
    unfold val8 at p2;generalize f 0=x at*
    have hv:(!ByteArray.toList (x)==ByteArray.toList (x))=false:=by simp
    go_wp2
    go_roundw
    case rel=>
     have e:64*k+(j+1)=1:=by have:=HNn.out;have:=HE0.out;omega
     refine⟨j+1,by omega,by go_num,?_⟩;rw[e];exact HSt.out
    case measure=>simp[intOf];omega
   ·obtain⟨m,rfl⟩:∃m,n=m+1:=⟨n - 1,by omega⟩
    have hlt:=kKe neV f (m+1) hn0
    have htold:=fun h=>kJy (ne:=neV) (f:=f) (n:=m+1) (N:=N) hn0 h (by rw[HN.out];exact hnN)
    have hcut:=fun h=>kHd (ne:=neV) (f:=f) (n:=m+1) hn0 h
    have hon:=fun h=>kJl (ne:=neV) (f:=f) (n:=m+1) hn0 h
    have e:kEr neV f (m+1)=[.int .i32 ((spT neV f (m+1)).2:Nat),.int .i32 (m:Nat),val8 (f (spT neV f (m+1)).2)]:=by unfold kEr;rw[if_neg hn0];rfl
    rw[e]at p0 p1 p2;simp only[jG,jI,jJ]at p0 p1 p2;unfold val8 at p2
    obtain⟨s,hs⟩:∃s,s=(spT neV f (m+1)).2:=⟨_,rfl⟩
    rw[←hs]at p0 p2 hlt htold hcut hon e
    have E:=jH e;clear e
    have HSs:=jH hs;clear hs
    have hsm:(s:Int)≤(m:Int):=by omega
    have dsm:decide ((s:Int)≤(m:Int))=true:=decide_eq_true hsm
    have hms:¬(m:Int)<(s:Int):=by omega
    have dms:decide ((m:Int)<(s:Int))=false:=decide_eq_false hms
    have HTo:=jH htold;clear htold
    have HCu:=jH hcut;clear hcut
    have HOn:=jH hon;clear hon
    by_cases hne:neV (f (m+1)) (f s)=true
    ·obtain⟨t1,t2⟩:=HTo.out hne;have hcu:=HCu.out hne;obtain⟨fn,tmps,assign,body,hy,hR⟩:=HY.out _ (spT neV f (m+1)).1 ⟨s,m,f s⟩ wr HST.out.j t1 t2
     have HT2:=jH (And.intro t1 t2);clear t1 t2
     have HCt:=jH hcu;clear hcu
     dsimp only[kJi]at hy
     have HRr:=jH hR;clear hR
     have hv:(!ByteArray.toList (f (m+1))==ByteArray.toList (f s))=true:=hne
     have HNe2:=jH hne;clear hne
     unfold val8 at hy;have HXe:Hid (f (m+1)=f (m+1)):=jH rfl;generalize hfs:f s=y at hy hv p2 HRr HT2 HCt;generalize hfm:f (m+1)=x at q0 hv
     have HFs:=jH hfs;have HFm:=jH hfm;clear hfs hfm
     go_upto_region 5 with(fail)
     refine(wpIn_wide (n:=2)).1 ?_
     gi_wp2
     refine HRr.out.mono ?_
     rintro e W3 (⟨rfl,hJ3,hk3⟩ | ⟨rfl,hx3,hk3⟩)
     ·obtain⟨l3,ct3,cn3,cm3⟩:=HST.out.kept HR0.out hk3 hsz;rw[E.out]at cn3;have HJ3:=jH hJ3;have x0:W3.cell? ⟨bm,0,none⟩=some (.bool true):=jK W3 bm 0 _ _ (0,0) cm3;have x1:=jO W3 bm 0 _ _ cm3;have hz3:wr.heap.size≤W3.heap.size:=hk3.size
      obtain⟨W4,hW4⟩:∃W4,W4=W3.setCell ⟨bm,0,none⟩ (.bool true):=⟨_,rfl⟩
      have oth4:∀k,k≠bm→W4.heap[k]? =W3.heap[k]? :=fun k hk=>by rw[hW4];exact jQ W3 ⟨bm,0,none⟩ k _ hk
      have cm4:W4.heap[bm]? =some (.cells #[.bool true] 4 (0,0)):=by rw[hW4,jP W3 bm 0 _ _ _ cm3];rfl
      have cn4:=(oth4 bn (fun h=>HNe.out.2.1 h.symm)).trans cn3;have HJ4:=jH (HJ.out _ _ _ _ _ hJ3 (show Off _ W3 W4 from by rw[hW4];exact Off.of_grown (kAe W3 bm 0 _) (fun k e=>by cases e;exact .inr (.inr rfl))) (kB4.refl _ _ _));have y0:W4.cell? ⟨bn,0,none⟩=some (.int .i32 (s:Nat)):=jK W4 bn 0 _ _ (0,0) cn4;have y1:W4.cell? ⟨bn,1,none⟩=some (.int .i32 (m:Nat)):=jK W4 bn 1 _ _ (0,0) cn4;have y2:W4.cell? ⟨bn,2,none⟩=some (val8 (f s)):=jK W4 bn 2 _ _ (0,0) cn4;have y3:=jO W4 bn 0 _ _ cn4;have y4:=jO W4 bn 1 _ _ cn4;have y5:=jO W4 bn 2 _ _ cn4;have y6:W4.cell? ⟨bm,0,none⟩=some (.bool true):=jK W4 bm 0 _ _ (0,0) cm4;have HW4:=jH hW4;have HX:=jH (And.intro l3 (And.intro ct3 (And.intro cn4 cm4)));have HO4:=jH oth4;clear hy q0 q2 q3 q4 p0 p1 p2 f0 f1 f2 hJ3 hk3 cn4 cm4 l3 ct3 cn3 cm3 hW4 oth4
      gi_wp2
      rw[←HW4.out];clear x0 x1
      go_upto_region 9 with(fail)
      obtain⟨W5,hW5⟩:∃W5,W5=((W4.setCell ⟨bn,0,none⟩ (.int .i32 ((m:Int)+1))).setCell ⟨bn,1,none⟩ (.int .i32 0)).setCell ⟨bn,2,none⟩ (val8 x):=⟨_,rfl⟩
      obtain⟨cn5,hg5⟩:=kKj HX.out.2.2.1 (.int .i32 ((m:Int)+1)) (.int .i32 0) (val8 x);rw[←hW5]at cn5 hg5;have cn6:=jP W5 bn 1 _ _ (.int .i32 ((m:Int)+1)) cn5;have hg6:=kAm hg5 (kAe W5 bn 1 (.int .i32 ((m:Int)+1)));have z0:W5.cell? ⟨bn,0,none⟩=some (.int .i32 ((m:Int)+1)):=jK W5 bn 0 _ _ (0,0) cn5;have z1:W5.cell? ⟨bn,1,none⟩=some (.int .i32 0):=jK W5 bn 1 _ _ (0,0) cn5;have z4:=jO W5 bn 1 _ _ cn5
      have HC6:=jH cn6;have HG6:=jH hg6
      unfold val8 at hW5;rw[←hW5];clear y0 y1 y2 y3 y4 y5 y6 cn5 cn6 hg5 hg6 hW5
      have d1:(0:Int)<(m:Int)+1:=by omega
      have d2:decide ((0:Int)<(m:Int)+1)=true:=decide_eq_true d1;go_wp2
      go_roundw
      case rel=>
       have e:64*k+(j+1)=m+1+1:=by have:=HNn.out;omega
       refine⟨j+1,by omega,by go_num,?_⟩;rw[e]
       have oth:∀k,k<W4.heap.size→k≠bn→(W5.setCell ⟨bn,1,none⟩ (.int .i32 ((m:Int)+1))).heap[k]? =W4.heap[k]? :=fun k hk hne=>HG6.out.block k hk (fun e=>hne (by simpa using e))
       have hl4:bm<W4.heap.size:=(jL HX.out.2.2.2)
       have hbt:W4.heap[bt]? =_:=(HO4.out bt HNe.out.2.2).trans HX.out.2.1
       refine⟨?_,fun k hk=> ?_,?_,?_,?_⟩
       ·rw[HCt.out];exact HJ.out _ _ _ _ _ HJ4.out (Off.of_grown HG6.out (fun k e=>by cases e;exact .inr (.inl rfl))) (kB4.refl _ _ _)
       ·rw[oth k (by omega) (by omega),HO4.out k (by omega)];exact HX.out.1 k hk
       ·exact(oth bt (jL hbt) HNe.out.1).trans hbt
       ·have e2:kEr neV f (m+1+1)=[.int .i32 ((m+1:Nat):Int),.int .i32 ((m+1:Nat):Int),val8 x]:=by
         unfold kEr;rw[if_neg (by omega),HCt.out,HFm.out]
         rfl
        rw[e2];have:=HC6.out;simp only[List.setIfInBounds_toArray,List.set_cons_succ,List.set_cons_zero]at this;exact this
       ·exact(oth bm hl4 HNe.out.2.1).trans HX.out.2.2.2
      case measure=>simp[intOf];omega
     ·have cm3:=hk3.below HST.out.cm (.inl (.inr (.inr rfl)));have x0:W3.cell? ⟨bm,0,none⟩=some (.bool true):=jK W3 bm 0 _ _ (0,0) cm3;have x1:=jO W3 bm 0 _ _ cm3
      have cm4:(W3.setCell ⟨bm,0,none⟩ (.bool false)).heap[bm]? =some (.cells #[.bool false] 4 (0,0)):=by rw[jP W3 bm 0 _ _ _ cm3];rfl
      have x2:(W3.setCell ⟨bm,0,none⟩ (.bool false)).cell? ⟨bm,0,none⟩=some (.bool false):=jK _ bm 0 _ _ (0,0) cm4;have HCm:=jH cm4;have HXf:=jH (HJx.out _ _ _ _ _ hx3 (Off.of_grown (kAe W3 bm 0 (.bool false)) (fun k e=>by cases e;exact .inr (.inr rfl))) (kB4.refl _ _ _));clear hy q0 q2 q3 q4 p0 p1 p2 f0 f1 f2 hx3 hk3 cm3 cm4
      gi_wp2
      go_wp2
      go_ret
      refine .inr ⟨rfl,⟨fun k=>k=bt∨k=bn∨k=bm,_,Nat.succ_pos _,HT2.out.1,?_⟩,HCm.out⟩;rw[←HT2.out.2];exact HXf.out
    ·have hv:(!ByteArray.toList (f (m+1))==ByteArray.toList (f s))=false:=eq_false_of_ne_true hne;have hc:=HOn.out hne
     have HSt:Hid (kFc J w0 neV f l bt bn bm (m+1+1) (wr.setCell ⟨bn,1,none⟩ (.int .i32 ((m:Int)+1)))):=jH (by
      refine HST.out.put HJ.out (kAe wr bn 1 _) HNe.out.1 HNe.out.2.1 h0n (m+1+1) (by rw[hc]) ?_;rw[jP wr bn 1 _ _ _ HST.out.cn,E.out]
      have e1:kEr neV f (m+1+1)=[.int .i32 (s:Nat),.int .i32 ((m+1:Nat):Int),val8 (f s)]:=by unfold kEr;rw[if_neg (by omega),hc,←HSs.out];rfl
      rw[e1]
      rfl)
     clear hc hne;generalize f s=y at hv p2;generalize f (m+1)=x at q0 hv;go_wp2
     go_roundw
     case rel=>
      have e:64*k+(j+1)=m+1+1:=by have:=HNn.out;omega
      refine⟨j+1,by omega,by go_num,?_⟩;rw[e];exact HSt.out
     case measure=>simp[intOf];omega
  ·obtain rfl:j=64:=by omega
   have HS6:Hid (kFc J w0 neV f l bt bn bm (64*(k+1)) wr):=jH HST.out;go_wp2
   go_ret
   exact .inl ⟨rfl,HS6.out⟩
theorem kC7 (w0:World)(g:Nat)(T:kAy El)(hk:kA5 T)(h0:0<T.low.length)(ht:kAj val8 138 64 w0 g T)(b:Nat)(R:Nat→Prop)(w:World)(hw:kHt w0 w)(hs:w0.heap.size≤w.heap.size)(hR0:∀k,k<w0.heap.size→R k)(hR1:R b)
  (c1:w.cell? ⟨b,0,none⟩=some (.pointer (some ⟨g,0,none⟩)))(N:Nat)(hN:N=1114112):
  kM6 Try.prog 117 #[.pointer (some ⟨b,0,none⟩)] kJi R (fun xs=>xs=spL neV (kAl ByteArray.empty T) N) (fun pre=>∃q,0<q∧q≤(spL neV (kAl ByteArray.empty T) N).length∧pre=(spL neV (kAl ByteArray.empty T) N).take q) (spL neV (kAl ByteArray.empty T) N).length w:=by
 intro l J Jx W hW hJ hJx hY h1;refine callsIn_wide.2 ?_;have HY:Hid (SpY J Jx R (spL neV (kAl ByteArray.empty T) N) l):=jH (fun T pre x W1 hj hlen htk=>hY T pre x W1 hj hlen ⟨pre.length+1,Nat.succ_pos _,hlen,htk⟩);have HJ:=jH hJ;have HJx:=jH hJx;have hWl:kHt w0 W:=hw.of_below hs hW;have hWs:w0.heap.size≤W.heap.size:=Nat.le_trans hs hW.size;have d1:=(hW.cell (p:=⟨b,0,none⟩) (World.block_lt_of_cell? w _ c1)).trans c1;have hbl:b<W.heap.size:=World.block_lt_of_cell? W ⟨b,0,none⟩ d1
 obtain⟨bt,hbt⟩:∃bt,bt=W.heap.size:=⟨_,rfl⟩
 have hB1:=(Below.refl _ W).alloc jR (.cells #[.func (.yield l) #[] #[]] 219);have hA1:=jN W (.cells #[.func (.yield l) #[] #[]] 219);have hz1:=World.size_alloc W (.cells #[.func (.yield l) #[] #[]] 219);have HW1:Hid (∃w1,W.alloc (.cells #[.func (.yield l) #[] #[]] 219)=w1):=jH ⟨_,rfl⟩;obtain⟨w1,hw1⟩:=HW1.out;clear HW1;rw[hw1]at hB1 hA1 hz1;have e1:w1.cell? ⟨b,0,none⟩=some (.pointer (some ⟨g,0,none⟩)):=(hB1.cell (p:=⟨b,0,none⟩) (by show b<_;omega)).trans d1;have HT1:=jH (kBn w1 g T hk h0 ((hWl.of_below hWs hB1).trie ht));have HAt:=jH (kDh w1 g T hk h0 ((hWl.of_below hWs hB1).trie ht) 0 (by omega) (by omega));rw[show kDe 0=0 from rfl]at HAt
 obtain⟨y0,hy0⟩:∃y0,y0=kAl ByteArray.empty T 0:=⟨_,rfl⟩
 rw[←hy0]at HAt
 have HY0:=jH hy0;clear hy0
 have HBl:=jH (fun(w2:World)=>kEi w0 g T hk h0 ht 119 #[.pointer (some ⟨bt+1,0,none⟩),.pointer (some ⟨bt,0,none⟩),.pointer (some ⟨bt+1+1,0,none⟩)]
  (fun k W=>kFc J w0 neV (kAl ByteArray.empty T) l bt (bt+1) (bt+1+1) (64*k) W) (fun W'=>(∃T' q,0<q∧q≤(spL neV (kAl ByteArray.empty T) N).length∧Jx T' ((spL neV (kAl ByteArray.empty T) N).take q) W')∧W'.heap[bt+1+1]? =some (.cells #[.bool false] 4 (0,0))) w2 (enters_of Try.func119 (by kernel_rfl) rfl)
  (fun k W h=>h.lies) (fun k W b' o' hk' hst hr=>kFa J Jx R w0 (kAl ByteArray.empty T) l bt (bt+1) (bt+1+1) k N hN W b' o' (kBd T k) hk' (kBc hk k hk') (fun j hj=>kBs ByteArray.empty T k j hj) hJ hJx HY.out hR0 (by omega) (by omega) (by omega) (by omega) (by omega) hr hst))
 have HN:=jH hN;have HW1:=jH (And.intro hWl (And.intro hB1 (And.intro hA1 h1)));have HSz:=jH (And.intro hWs hbt);have HH:=jH hw1;have hb1:W.heap.size=bt:=hbt.symm
 have hz1':w1.heap.size=bt+1:=by rw[hz1,hb1]
 have E1:=jH e1;clear hJ hJx hY h1 hW hWl hWs d1 hbl hB1 hA1 e1 hR0 hR1 c1 hN hs hw ht hk h0 hbt hw1 hz1
 go_enter Try.func117,Try.ntmps117
 go_upto_region 1 with(fail)
 rw[HH.out];have e1:=E1.out
 go_wp2_with fail
 refine HT1.out.mono ?_;rintro e w1' ⟨rfl,h1'⟩;subst h1';clear HT1
 go_wp2_with fail
 refine HAt.out.mono ?_;rintro e w2 ⟨rfl,q,rfl⟩;have HBd:Hid (Below w1.heap.size w1 (w1.drewN q)):=jH (below_drewN (Below.refl _ w1) q);have e2:(w1.drewN q).cell? ⟨b,0,none⟩=some (.pointer (some ⟨g,0,none⟩)):=e1;have hz2:(w1.drewN q).heap.size=bt+1:=hz1';clear e1 HAt hz1';generalize w1.drewN q=w2 at*;have hB3:=(Below.refl _ w2).alloc jR (.cells #[.int .i32 0,.int .i32 (-1),val8 y0] 163);have hA3:=jN w2 (.cells #[.int .i32 0,.int .i32 (-1),val8 y0] 163);have hz3:=World.size_alloc w2 (.cells #[.int .i32 0,.int .i32 (-1),val8 y0] 163)
 obtain⟨w3,hw3⟩:∃w3,w3=w2.alloc (.cells #[.int .i32 0,.int .i32 (-1),val8 y0] 163):=⟨_,rfl⟩
 rw[←hw3]at hB3 hA3 hz3;have hB4:=(Below.refl _ w3).alloc jR (.cells #[.bool true] 4);have hA4:=jN w3 (.cells #[.bool true] 4);have hz4:=World.size_alloc w3 (.cells #[.bool true] 4)
 obtain⟨w4,hw4⟩:∃w4,w4=w3.alloc (.cells #[.bool true] 4):=⟨_,rfl⟩
 rw[←hw4]at hB4 hA4 hz4;have hB24:=hB3.trans (hB4.mono (by omega));have hB14:=HBd.out.trans (hB24.mono HBd.out.size)
 have HS4:Hid (kFc J w0 neV (kAl ByteArray.empty T) l bt (bt+1) (bt+1+1) (64*0) w4):=jH (by
  obtain⟨hWl,hB1,hA1,h1⟩:=HW1.out;have hb4:Below W.heap.size W w4:=hB1.trans (hB14.mono hB1.size)
  refine⟨HJ.out _ _ _ _ _ h1 (Off.of_below hb4) (fun k hk=> .inr (by rcases hk with hk | hk | hk<;>omega)),hWl.of_below HSz.out.1 hb4,?_,?_,?_⟩
  ·rw[hb1]at hA1;exact(hB14.block _ (by have:=(jL hA1);omega)).trans hA1
  ·rw[hz2]at hA3
   have e:kEr neV (kAl ByteArray.empty T) (64*0)=[.int .i32 0,.int .i32 (-1),val8 y0]:=by rw[HY0.out];rfl
   rw[e];exact(hB4.block _ (by omega)).trans hA3
  ·rw[hz3,hz2]at hA4
   exact hA4)
 have e4:w4.cell? ⟨b,0,none⟩=some (.pointer (some ⟨g,0,none⟩)):=(hB24.cell (p:=⟨b,0,none⟩) (World.block_lt_of_cell? w2 _ e2)).trans e2;unfold val8 at hw3;unfold val8;have HW3:=jH (And.intro hw3 hw4);have HE4:=jH e4
 have hz3':w3.heap.size=bt+1+1:=by rw[hz3,hz2]
 have HZ:=jH (And.intro hz2 hz3');clear hB3 hA3 hz3 hB4 hA4 hz4 hB24 hB14 e4 hw3 hw4 hz2 hz3'
 go_upto_region 4 with(fail)
 rw[←HW3.out.1,←HW3.out.2,HZ.out.1];have e4:=HE4.out;clear e2
 go_wp2_with fail
 refine(HBl.out w4 HS4.out).mono ?_;clear HBl e4
 rintro e w5 ⟨⟨u,rfl⟩,(h5 | ⟨⟨T',q,hq0,hql,hx5⟩,hm5⟩)⟩
 ·rw[show 64*17408=N by rw[HN.out]]at h5
  have hN0:N≠0:=by rw[HN.out];omega
  have e:kEr neV (kAl ByteArray.empty T) N=[.int .i32 ((spT neV (kAl ByteArray.empty T) N).2:Nat),.int .i32 ((N - 1:Nat):Int),val8 (kAl ByteArray.empty T (spT neV (kAl ByteArray.empty T) N).2)]:=by unfold kEr;rw[if_neg hN0]
  obtain⟨fn,tmps,assign,body,hy,hR⟩:=HY.out _ (spT neV (kAl ByteArray.empty T) N).1 ⟨(spT neV (kAl ByteArray.empty T) N).2,N - 1,kAl ByteArray.empty T (spT neV (kAl ByteArray.empty T) N).2⟩ w5 h5.j (kEt neV (kAl ByteArray.empty T) N).1 (kEt neV (kAl ByteArray.empty T) N).2
  have HRr:=jH hR;clear hR
  dsimp only[kJi]at hy
  have hcn:=h5.cn;rw[e]at hcn;have q0:w5.cell? ⟨bt,0,none⟩=some (.func (.yield l) #[] #[]):=jK w5 bt 0 _ _ (0,0) h5.ct;have q1:w5.cell? ⟨bt+1,0,none⟩=some (.int .i32 ((spT neV (kAl ByteArray.empty T) N).2:Nat)):=jK w5 (bt+1) 0 _ _ (0,0) hcn;have q2:w5.cell? ⟨bt+1,1,none⟩=some (.int .i32 ((N - 1:Nat):Int)):=jK w5 (bt+1) 1 _ _ (0,0) hcn;have q3:w5.cell? ⟨bt+1,2,none⟩=some (val8 (kAl ByteArray.empty T (spT neV (kAl ByteArray.empty T) N).2)):=jK w5 (bt+1) 2 _ _ (0,0) hcn;have q4:w5.cell? ⟨bt+1+1,0,none⟩=some (.bool true):=jK w5 (bt+1+1) 0 _ _ (0,0) h5.cm;have HLast:=jH (kEt neV (kAl ByteArray.empty T) N);have HFull:Hid ((spT neV (kAl ByteArray.empty T) N).1++[⟨(spT neV (kAl ByteArray.empty T) N).2,N - 1,kAl ByteArray.empty T (spT neV (kAl ByteArray.empty T) N).2⟩]=spL neV (kAl ByteArray.empty T) N):=jH rfl;clear h5 hcn e;unfold val8 at q3 hy;generalize hgs:kAl ByteArray.empty T (spT neV (kAl ByteArray.empty T) N).2=y at q3 hy HRr HLast HFull;generalize hgs2:(spT neV (kAl ByteArray.empty T) N).2=s at q1 hy HRr HLast HFull;generalize hgs3:N - 1=M at q2 hy HRr HLast HFull;clear hgs hgs2 hgs3
  go_upto_region 6 with(fail)
  refine(wpIn_wide (n:=2)).1 ?_
  gi_wp2
  refine HRr.out.mono ?_
  rintro e W3 (⟨rfl,hJ3,hk3⟩ | ⟨rfl,hx3,hk3⟩)
  ·rw[HFull.out]at hJ3;have HJ3:=jH hJ3;clear hJ3 hk3 hy q0 q1 q2 q3 q4
   gi_wp2
   go_wp2
   go_end0
   exact⟨⟨_,rfl⟩,.inl ⟨_,_,rfl,HJ3.out⟩⟩
  ·rw[HLast.out.2]at hx3;have HX3:=jH hx3;clear hx3 hk3 hy q0 q1 q2 q3 q4
   gi_wp2
   go_wp2
   go_end0
   exact⟨⟨_,rfl⟩,.inr ⟨_,_,⟨_,Nat.succ_pos _,HLast.out.1,rfl⟩,HX3.out⟩⟩
 ·have q4:w5.cell? ⟨bt+1+1,0,none⟩=some (.bool false):=jK w5 (bt+1+1) 0 _ _ (0,0) hm5;have HX5:=jH hx5;clear hx5 hm5;go_wp2
  go_end0
  exact⟨⟨_,rfl⟩,.inr ⟨_,_,⟨q,hq0,hql,rfl⟩,HX5.out⟩⟩
end Go.Proofs.Ytabbabkmojaoaaa.VS
