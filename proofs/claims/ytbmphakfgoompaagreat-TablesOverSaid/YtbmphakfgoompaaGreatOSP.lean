/- several texts in one: SP0 TZJ -/
import Derived.Test.YtbmphakfgoompaaGreatOTD
import Derived.Test.YtbmphakfgoompaaGreatOTW
import Derived.RangeFuncBound
import Derived.OwnWalkIn
import Derived.TacticsInMore
import Derived.LoopNIn
import Derived.LoopIn
import Derived.Deep.Cut
set_option linter.unusedVariables false
set_option linter.unusedSimpArgs false
set_option maxRecDepth 100000
set_option maxHeartbeats 16000000
namespace Go.Proofs.YtbmphakfgoompaaGreat
open Go.RowKit
theorem kMy {W:World}{b:Nat}{t:TypeId}{x y z:Value}(h:W.heap[b]? =some (.cells #[x,y,z] t (0,0)))(x' y' z':Value):
  (((W.setCell ⟨b,0,none⟩ x').setCell ⟨b,1,none⟩ y').setCell ⟨b,2,none⟩ z').heap[b]? =some (.cells #[x',y',z'] t (0,0))∧W.grownBy (((W.setCell ⟨b,0,none⟩ x').setCell ⟨b,1,none⟩ y').setCell ⟨b,2,none⟩ z') (some b):=by
 have h1:=jP W b 0 _ _ x' h;have h2:=jP _ b 1 _ _ y' h1;have h3:=jP _ b 2 _ _ z' h2;exact⟨h3,kA4 (kA4 (kAd W b 0 _) (kAd _ b 1 _)) (kAd _ b 2 _)⟩
structure kA3 (α:Type) where
 f:Nat
 t:Nat
 v:α
section
variable {α : Type}
def spT (ne:α→α→Bool) (f:Nat→α):Nat→List (kA3 α)×Nat
 | 0=>([],0)
 | n+1=>if n=0 then([],0)else if ne (f n) (f (spT ne f n).2)=true then((spT ne f n).1++[⟨(spT ne f n).2,n - 1,f (spT ne f n).2⟩],n)else spT ne f n
theorem kIf (ne:α→α→Bool)(f:Nat→α):spT ne f 1=([],0):=by rw[spT,if_pos rfl]
theorem kIe {ne:α→α→Bool}{f:Nat→α}{n:Nat}(hn:n≠0)(h:ne (f n) (f (spT ne f n).2)=true):spT ne f (n+1)=((spT ne f n).1++[⟨(spT ne f n).2,n - 1,f (spT ne f n).2⟩],n):=by
 rw[spT,if_neg hn,if_pos h]
theorem kMu {ne:α→α→Bool}{f:Nat→α}{n:Nat}(hn:n≠0)(h:¬ne (f n) (f (spT ne f n).2)=true):spT ne f (n+1)=spT ne f n:=by
 rw[spT,if_neg hn,if_neg h]
theorem kOn (ne:α→α→Bool)(f:Nat→α)(n:Nat)(hn:n≠0):(spT ne f n).2<n:=by
 induction n with
 | zero=>exact absurd rfl hn
 | succ n ih=>
  by_cases h0:n=0
  ·subst h0;rw[kIf];exact Nat.lt_succ_self _
  ·by_cases h:ne (f n) (f (spT ne f n).2)=true
   ·rw[kIe h0 h];exact Nat.lt_succ_self _
   ·rw[kMu h0 h];have:=ih h0;omega
def spL (ne:α→α→Bool) (f:Nat→α) (n:Nat):List (kA3 α):=(spT ne f n).1++[⟨(spT ne f n).2,n - 1,f (spT ne f n).2⟩]
theorem kTz (ne:α→α→Bool)(f:Nat→α)(n j:Nat):(spT ne f n).1 <+: (spT ne f (n+j)).1:=by
 induction j with
 | zero=>exact List.prefix_refl _
 | succ j ih=>
  rw[←Nat.add_assoc]
  by_cases h0:n+j=0
  ·have:n=0:=by omega
   subst this;exact List.nil_prefix
  ·by_cases h:ne (f (n+j)) (f (spT ne f (n+j)).2)=true
   ·rw[kIe h0 h];exact ih.trans (List.prefix_append _ _)
   ·rw[kMu h0 h];exact ih
theorem kOo {ne:α→α→Bool}{f:Nat→α}{n N:Nat}(hn:n≠0)(h:ne (f n) (f (spT ne f n).2)=true)(hN:n<N):
  (spT ne f n).1.length<(spL ne f N).length∧(spT ne f n).1++[⟨(spT ne f n).2,n - 1,f (spT ne f n).2⟩]=(spL ne f N).take ((spT ne f n).1.length+1):=by
 have h1:=kTz ne f (n+1) (N - (n+1));rw[show n+1+(N - (n+1))=N by omega,kIe hn h]at h1;have h2:(spT ne f n).1++[⟨(spT ne f n).2,n - 1,f (spT ne f n).2⟩] <+: spL ne f N:=h1.trans (List.prefix_append _ _);have h3:=h2.length_le;rw[List.length_append,List.length_singleton]at h3;refine⟨by omega,?_⟩;have h4:=List.prefix_iff_eq_take.1 h2;rw[List.length_append,List.length_singleton]at h4;exact h4
theorem kF3 (ne:α→α→Bool)(f:Nat→α)(N:Nat):(spT ne f N).1.length<(spL ne f N).length∧(spT ne f N).1++[⟨(spT ne f N).2,N - 1,f (spT ne f N).2⟩]=(spL ne f N).take ((spT ne f N).1.length+1):=by
 unfold spL;refine⟨by simp,?_⟩;rw[List.take_of_length_le (by simp)]
end
end Go.Proofs.YtbmphakfgoompaaGreat

namespace Go.Proofs.YtbmphakfgoompaaGreat.VJ
open Go.RowKit
attribute [local go_sem] Oper.semAt_some
theorem kFk (w0:World)(g:Nat)(T:kAp El)(hk:kBk T)(h0:0<T.low.length)(ht:kAu val8 152 64 w0 g T)(cf:Nat)(lb:Array Value)(J:Nat→World→Prop)(Jx:World→Prop)(w:World)(eg:∀args W,(callFunc cf args).run Tryz.prog W= .ok (.enter cf args) W)
  (hJ:∀k W,J k W→kJ2 w0 W)
  (hcall:∀k W (b o:Nat),k<17408→J k W→w0.rangeAt b o (kAh val8 (kG9 T k))→
   Calls Tryz.prog cf (#[.pointer (some ⟨b,o,none⟩)]++lb) W fun e W'=>(e= .returned (.bool true)∧J (k+1) W')∨(e= .returned (.bool false)∧Jx W'))
  (h1:J 0 w):
  Calls Tryz.prog 119 #[.pointer (some ⟨g,0,none⟩),.func (.func cf) #[] lb] w fun e w'=>(∃v,e= .returned v)∧(J 17408 w'∨Jx w'):=by
 have HJ:=jH hJ;clear hJ
 have HCl:=jH hcall;clear hcall
 have H1:=jH h1;clear h1
 have HEg:=jH eg;clear eg
 have HK:=jH hk;clear hk
 obtain⟨am,cm,al,cl,hh1,hh2,hh3⟩:=ht
 have HG1:=jH hh1;have HG2:=jH hh2;have HG3:=jH hh3
 clear hh1 hh2 hh3;have hh1:=(HJ.out 0 w H1.out).block HG1.out
 have HR0:Hid (w.rangeAt g 0 (kAh kAb T.top)):=jH (by
  intro j v hv
  have hjl:j<T.top.length:=by
   have:=(List.getElem?_eq_some_iff.1 hv).1;rw[kAf (sz:=1) (fun _=>rfl)]at this;omega
  rw[Nat.zero_add,kAu.cell_top (val:=val8) HK.out hh1 j (by rw[←HK.out.top];exact hjl),kA7 (d:=0) hjl,←hv,kCf kBj _ j hjl])
 have hts:(kAh kAb T.top).length=272:=by rw[kAf (sz:=1) (fun _=>rfl),HK.out.top]
 clear hh1
 go_enter Tryz.func119,Tryz.ntmps119
 go_upto_region 0 with(fail)
 refine wp_region_list ?_;refine kAc (v:= .pointer (some ⟨g,0,none⟩)) (w':=w) rfl (by rfl) ?_;refine kAc (v:= .pointer (some ⟨g,0,none⟩)) (w':=w) rfl (by rfl) ?_;refine kAc (v:= .pointer (some ⟨g,0,none⟩)) (w':=w) rfl (by go_simp) ?_;refine wpList_load_mid rfl 135 (.tmp 10) rfl g 0 rfl (kAh kAb T.top) (.array 272 29) HR0.out Tryz.underlying135 rfl (by rw[hts];kernel_rfl) ?_
 have HTop:Hid (∀c,c<272→(kAh kAb T.top).toArray[c]? =some (kAb (T.top.getD c 0))):=jH (fun c hc=>by
  have hcl:c<T.top.length:=by rw[HK.out.top];exact hc
  rw[List.getElem?_toArray,kCf kBj _ c hcl,kA7 (d:=0) hcl])
 generalize (kAh kAb T.top).toArray=top at*;clear hts HR0;go_wp2
 go_loopw [12] (BlO J) (fun i _=>272 - (intOf i).toNat)
 case atStart=>exact⟨0,Nat.zero_le _,rfl,H1.out⟩
 case round=>
  obtain⟨c,hc,rfl,hj⟩:=hrel
  have HJc:=jH hj;clear hj
  by_cases hcn:c<272
  ·have hci:(c:Int)<272:=by omega
   have a1:=kHh top c _ hcn (HTop.out c hcn) wr
   have htl:c<T.top.length:=by rw[HK.out.top];exact hcn
   have hil:T.top.getD c 0<T.mid.length:=by rw[kA7 (d:=0) htl];exact HK.out.topN _ (List.getElem_mem htl)
   obtain⟨i,hi⟩:∃i,i=T.top.getD c 0:=⟨_,rfl⟩
   rw[←hi]at a1 hil
   have HI:=jH hi;clear hi
   have hly:=HJ.out _ _ HJc.out;have c1:=kAu.cell_mid (val:=val8) HK.out (hly.block HG1.out);obtain⟨bm,om,rfl⟩:=HG2.out.some (by omega);have HR:=jH (hly.range (HG2.out.get i hil));clear hly;have hml:(T.mid[i]).length=64:=HK.out.mid _ (List.getElem_mem hil)
   have hms:(kAh kAb T.mid[i]).length=64:=by rw[kAf (sz:=1) (fun _=>rfl),hml]
   have hnm:T.mid.length≤272:=HK.out.midL
   have HMid:Hid (∀j,j<64→(kAh kAb T.mid[i]).toArray[j]? =some (kAb ((T.mid.getD i []).getD j 0))):=jH (fun j hj=>by
    rw[List.getElem?_toArray,kCf kBj _ j (by omega),kA7 (d:=[]) hil,kA7 (d:=0) (by omega)])
   unfold kAb at a1
   have g1:(0:Int)≤(i:Int):=by omega
   have g2:(i:Int)<((T.mid.length:Nat):Int):=by omega
   generalize hnn:T.mid.length=nm at c1 g2 hnm;clear hnn
   go_upto_region 3 with(fail)
   refine wp_region_list ?_;refine kAc (v:= .pointer (some ⟨g,0,none⟩)) (w':=wr) rfl (by rfl) ?_;refine kAc (v:= .pointer (some ⟨g,0,none⟩)) (w':=wr) rfl (by rfl) ?_;refine kAc (v:= .pointer (some ⟨g,272,none⟩)) (w':=wr) rfl (by go_simp) ?_;refine kAc (v:= .slice (some ⟨bm,om,none⟩) nm cm) (w':=wr) rfl (by go_simp) ?_;refine kAc (v:= .int .u16 (i:Nat)) (w':=wr) rfl (by rfl) ?_;refine kAc (v:= .pointer (some ⟨bm,om+i*64,none⟩)) (w':=wr) rfl (by go_simp) ?_;refine wpList_load_mid rfl 145 (.tmp 20) rfl bm (om+i*64) rfl (kAh kAb T.mid[i]) (.array 64 29) HR.out Tryz.underlying145 rfl (by rw[hms];kernel_rfl) ?_;generalize (kAh kAb T.mid[i]).toArray=mid at*;clear hms HR c1 g1 g2 hnm a1;go_wp2
   go_loopw [22] (BlI J c) (fun i _=>64 - (intOf i).toNat)
   case atStart=>exact⟨0,Nat.zero_le _,rfl,HJc.out⟩
   case round=>
    obtain⟨j,hj,rfl,hjj⟩:=hrel
    have HJj:=jH hjj;clear hjj
    by_cases hjn:j<64
    ·have hji:(j:Int)<64:=by omega
     have b1:=kHg mid j _ hjn (HMid.out j hjn) wr;have hly:=HJ.out _ _ HJj.out;have c2:=kAu.cell_low (val:=val8) HK.out (hly.block HG1.out);clear hly
     have hkk:64*c+j<17408:=by omega
     have hLow:kG9 T (64*c+j)=T.low.getD ((T.mid.getD i []).getD j 0) []:=by
      unfold kG9;rw[show(64*c+j) / 64=c by omega,show(64*c+j) % 64=j by omega,←HI.out]
     have hmj:j<(T.mid[i]).length:=by rw[hml];exact hjn
     have hll:(T.mid.getD i []).getD j 0<T.low.length:=by
      rw[kA7 (d:=[]) hil,kA7 (d:=0) hmj];exact HK.out.midN _ (List.getElem_mem hil) _ (List.getElem_mem hmj)
     obtain⟨q,hq⟩:∃q,q=(T.mid.getD i []).getD j 0:=⟨_,rfl⟩
     rw[←hq]at b1 hLow hll;obtain⟨bl,ol,rfl⟩:=HG3.out.some (by omega)
     have HRl:Hid (w0.rangeAt bl (ol+q*64) (kAh val8 (kG9 T (64*c+j)))):=jH (by
      rw[hLow,kA7 (d:=[]) hll]
      exact HG3.out.get q hll)
     have hnl:T.low.length≤17408:=HK.out.lowL;clear hq hLow;unfold kAb at b1
     have g3:(0:Int)≤(q:Int):=by omega
     have g4:(q:Int)<((T.low.length:Nat):Int):=by omega
     generalize hnn:T.low.length=nl at c2 g4 hnl;clear hnn hll hmj hil hml;have heg:=HEg.out
     go_wp2_with fail
     refine(HCl.out (64*c+j) wr bl (ol+q*64) hkk HJj.out HRl.out).mono ?_
     rintro e w5 (⟨rfl,h5⟩ | ⟨rfl,h5⟩)
     ·have H5:=jH h5;clear h5 heg
      go_wp2
      go_roundw
      case rel=>exact⟨j+1,by omega,by go_num,by rw[←Nat.add_assoc];exact H5.out⟩
      case measure=>simp[intOf];omega
     ·have H5:=jH h5;clear h5 heg
      go_wp2
      refine jS (results_none rfl _ _ _) rfl ?_;exact⟨⟨_,rfl⟩,.inr H5.out⟩
    ·obtain rfl:j=64:=by omega
     have HJ6:Hid (J (64*(c+1)) wr):=jH HJj.out;go_wp2
     go_roundw
     case rel=>exact⟨c+1,by omega,by go_num,HJ6.out⟩
     case measure=>simp[intOf];omega
  ·obtain rfl:c=272:=by omega
   have hJ2:J 17408 wr:=HJc.out
   have HJ2:=jH hJ2;clear hJ2
   go_wp2
   go_end0
   exact⟨⟨_,rfl⟩,.inl HJ2.out⟩
end Go.Proofs.YtbmphakfgoompaaGreat.VJ
