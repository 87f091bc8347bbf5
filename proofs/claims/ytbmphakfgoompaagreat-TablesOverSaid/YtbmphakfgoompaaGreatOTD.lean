/- several texts in one: TD TU TX TZ TN -/
import Derived.Test.YtbmphakfgoompaaGreatOTA
import Derived.Deep.RegionLaw
import Derived.Test.YtbmphakfgoompaaGreatOTR
import Derived.Test.YtbmphakfgoompaaGreatOR
import Derived.RangeFuncBound
import Derived.OwnWalkIn
import Derived.TacticsInMore
import Derived.LoopNIn
import Derived.LoopIn
import Derived.Deep.Cut
set_option linter.unusedVariables false
set_option linter.unusedSimpArgs false
set_option maxRecDepth 100000
set_option maxHeartbeats 16000000
namespace Go.Proofs.YtbmphakfgoompaaGreat
open Go.RowKit
structure kAr where
 f:Int
 t:Int
 v:Int
instance:Inhabited kAr:=⟨⟨0,0,0⟩⟩
def kB3 (w:World) (a:Option Addr) (l:List kAr):Prop:=
 ∀i (h:i<l.length),∃b o,a=some ⟨b,o,none⟩∧w.cell? ⟨b,o+i*3,none⟩=some (.int .i32 l[i].f)∧w.cell? ⟨b,o+i*3+1,none⟩=some (.int .i32 l[i].t)∧w.cell? ⟨b,o+i*3+2,none⟩=some (.int .u8 l[i].v)
theorem kB3.get {w:World}{b o:Nat}{l:List kAr}(h:kB3 w (some ⟨b,o,none⟩) l)(i:Nat)(hi:i<l.length):
  w.cell? ⟨b,o+i*3,none⟩=some (.int .i32 l[i].f)∧w.cell? ⟨b,o+i*3+1,none⟩=some (.int .i32 l[i].t)∧w.cell? ⟨b,o+i*3+2,none⟩=some (.int .u8 l[i].v):=by
 obtain⟨b',o',e,hc⟩:=h i hi;simp only[Option.some.injEq,Addr.mk.injEq,and_true]at e;obtain⟨rfl,rfl⟩:=e;exact hc
theorem kB3.some {w:World}{a:Option Addr}{l:List kAr}(h:kB3 w a l)(hn:0<l.length):∃b o,a=Option.some ⟨b,o,none⟩:=by
 obtain⟨b,o,e,_⟩:=h 0 hn;exact⟨b,o,e⟩
def kNa (s:kAr):Prop:=s.f<0∨1114111<s.t∨s.t<s.f
def kJb (x:Int) (s:kAr):Bool:=decide (s.f≤x∧x≤s.t)
def kPu (l:List kAr) (x:Int):Int:=match l.findIdx? (kJb x)with
 | some i=>(i:Int)+1
 | none=>0
def kNp (l:List kAr) (k:Nat):Prop:=∃x:Int,kJb x (l.getD k default)=true∧kPu (l.take k) x≠0
def fS (rest:Int) (l:List kAr) (r:Nat):Int:=if kPu l (r:Nat)=0 then rest else(l.getD (kPu l (r:Nat) - 1).toNat default).v
end Go.Proofs.YtbmphakfgoompaaGreat

namespace Go.Proofs.YtbmphakfgoompaaGreat
theorem Made8.nl {f:Nat→Int}{S:MkS Int}(hS:Made8 f S):S.lows.Nodup:=hS.made.inv.nl
theorem kG4 {β:Type}:∀(L:List (List β)),(∀l∈L,l.length=64)→L.flatten.length=64*L.length
 | [],_=>rfl
 | l :: L,h=>by
  rw[List.flatten_cons,List.length_append,h l (by simp),kG4 L (fun l hl=>h l (by simp[hl])),List.length_cons];omega
end Go.Proofs.YtbmphakfgoompaaGreat

namespace Go.Proofs.YtbmphakfgoompaaGreat
open Go.RowKit
theorem kJy {P:Program}{t e:TypeId}{z:Value}{size bytes:Nat}(el:kFh P t e z size bytes){w:World}{ops:Array Oper}{o:Oper}{act:Act}{K:Act→World→Prop}{Q:Exit→Act→World→Prop}{E:Prop}(hgd:o.guard=none)(s x:Operand)
  (ho:o.op= .call {callee:= .builtin .append,args:= #[s,x],argTypes:= #[t,t]}){B:Nat}{a:Option Addr}{n cap:Nat}{xs:List Value}(hown:w.ownsRow B e size (.slice a n cap) n xs)(hB:B≤w.heap.size)(hn:(n+1)*bytes≤140737488355328)(hm:n<140737488355328)(b:Nat)(cs:List Value)(hcs:cs.length=size)
  (hcell:∀j v,cs[j]? =some v→w.cell? ⟨b,j,none⟩=some v)(hu:∀u∈cs,u.oneCell'=true)
  (hs:act.eval s= .slice a n cap)(hx:act.eval x= .slice (some ⟨b,0,none⟩) 1 1)
  (h:∀a' cap' w',w'.ownsRow B e size (.slice a' (n+1) cap') (n+1) (xs++cs)→w.grownBy w' (Value.slice a n cap).ownBlock→kBe w (.slice a n cap) (.slice a' (n+1) cap')→K (act.put o.dst (.slice a' (n+1) cap')) w'):
  if Region.wanted o (yielded ops act.tmps)=true then Oper.wp P o act w K Q else E:=by
 rw[if_pos (by simp[Region.wanted,hgd])];obtain⟨i,hi,hz,h1,hb⟩:=info_parts el.inf
 have hcell':∀j v,cs[j]? =some v→w.cell? ((⟨b,0,none⟩:Addr).add j)=some v:=by
  intro j v hv;rw[Addr.add_lit,Nat.zero_add];exact hcell j v hv
 obtain⟨v',w',hr,h2,h3,h4⟩:=kGp (P:=P) w B t o.type e i z size bytes el.und hi hz h1 hb el.sz el.pos _ n xs hown ⟨b,0,none⟩ 1 1 cs (by simp[hcs]) hcell' hu (by simp only[maxLen];omega) hn hB;unfold Oper.wp execOp;simp only[ho,resolve,invoke,builtin,Sem.run_bind,Sem.run_pure,Result.andThen_ok,List.map_toArray,List.map_cons,List.map_nil,hs,hx,hr]
 have hv':∃a' cap',v'= .slice a' (n+1) cap':=by
  rcases h2.2 with⟨rfl,h0⟩ | ⟨g,cap',cur,rfl,_⟩
  ·omega
  ·exact⟨_,_,rfl⟩
 obtain⟨a',cap',rfl⟩:=hv';exact h a' cap' w' h2 h3 h4
def okS (l:List kAr):Prop:=(∀j,j<l.length→¬kNa (l.getD j default))∧∀j,j<l.length→¬kNp l j
end Go.Proofs.YtbmphakfgoompaaGreat

namespace Go.Proofs.YtbmphakfgoompaaGreat
open Go.RowKit
attribute [local go_sem] Oper.semAt_some
section
variable {α : Type}
def kG9 (T:kAp α) (k:Nat):List α:=T.low.getD ((T.mid.getD (T.top.getD (k / 64) 0) []).getD (k % 64) 0) []
theorem kKj (d:α)(T:kAp α)(k j:Nat)(hj:j<64):(kG9 T k).getD j d=kAo d T (64*k+j):=by
 unfold kG9 kAo;rw[show(64*k+j) / 4096=k / 64 by omega,show(64*k+j) / 64 % 64=k % 64 by omega,show(64*k+j) % 64=j by omega]
theorem kIn {T:kAp α}(hk:kBk T)(k:Nat)(h:k<17408):(kG9 T k).length=64:=by
 have htl:k / 64<T.top.length:=by rw[hk.top];omega
 unfold kG9;rw[kA7 (d:=0) htl];have hil:=hk.topN _ (List.getElem_mem htl);rw[kA7 (d:=[]) hil]
 have hmj:k % 64<(T.mid[T.top[k / 64]]).length:=by rw[hk.mid _ (List.getElem_mem hil)];omega
 rw[kA7 (d:=0) hmj];have hjl:=hk.midN _ (List.getElem_mem hil) _ (List.getElem_mem hmj);rw[kA7 (d:=[]) hjl];exact hk.low _ (List.getElem_mem hjl)
end
theorem kHh (cs:Array Value)(c:Nat)(v:Value)(hc:c<272)(hv:cs[c]? =some v)(w:World):(Instr.index 135 (.agg cs) (.int .i64 (c:Nat))).run Tryz.prog w= .ok v w:=by
 have h1:(isAgg 29).run Tryz.prog w= .ok false w:=by kernel_rfl
 have h2:(sizeOf 29).run Tryz.prog w= .ok 1 w:=by kernel_rfl
 have h3:(c:Int)<272:=by omega
 simp[Instr.index,run_underlying Tryz.underlying135,asIntOf,h3,part,h1,h2,hv];omega
theorem kHg (cs:Array Value)(c:Nat)(v:Value)(hc:c<64)(hv:cs[c]? =some v)(w:World):(Instr.index 145 (.agg cs) (.int .i64 (c:Nat))).run Tryz.prog w= .ok v w:=by
 have h1:(isAgg 29).run Tryz.prog w= .ok false w:=by kernel_rfl
 have h2:(sizeOf 29).run Tryz.prog w= .ok 1 w:=by kernel_rfl
 have h3:(c:Int)<64:=by omega
 simp[Instr.index,run_underlying Tryz.underlying145,asIntOf,h3,part,h1,h2,hv];omega
def kJ2 (w0 W:World):Prop:=∀k,k<w0.heap.size→W.heap[k]? =w0.heap[k]?
theorem kJ2.cell {w0 W:World}(h:kJ2 w0 W){b o:Nat}{v:Value}(hc:w0.cell? ⟨b,o,none⟩=some v):W.cell? ⟨b,o,none⟩=some v:=by
 rw[World.cell?_of_block (w:=w0) (a:=⟨b,o,none⟩) (h b (World.block_lt_of_cell? w0 _ hc))];exact hc
theorem kJ2.range {w0 W:World}(h:kJ2 w0 W){b o:Nat}{cs:List Value}(hc:w0.rangeAt b o cs):W.rangeAt b o cs:=fun j v hv=>h.cell (hc j v hv)
theorem kJ2.block {w0 W:World}(h:kJ2 w0 W){b:Nat}{x:Obj}(hc:w0.heap[b]? =some x):W.heap[b]? =some x:=(h b (jL hc)).trans hc
theorem kJ2.of_below {w0 W W':World}(h:kJ2 w0 W)(hs:w0.heap.size≤W.heap.size)(hb:Below W.heap.size W W'):kJ2 w0 W':=fun k hk=>(hb.block k (by omega)).trans (h k hk)
theorem kJ2.trie {w0 W:World}(h:kJ2 w0 W){α:Type}{val:α→Value}{ty:TypeId}{n g:Nat}{T:kAp α}(ht:kAu val ty n w0 g T):kAu val ty n W g T:=by
 obtain⟨am,cm,al,cl,h1,h2,h3⟩:=ht;exact⟨am,cm,al,cl,h.block h1,fun i hi=>by obtain⟨b,o,e,hr⟩:=h2 i hi;exact⟨b,o,e,h.range hr⟩,fun i hi=>by obtain⟨b,o,e,hr⟩:=h3 i hi;exact⟨b,o,e,h.range hr⟩⟩
def BlO (J:Nat→World→Prop) (v:Value) (wr:World):Prop:=∃c:Nat,c≤272∧v= .int .i64 (c:Nat)∧J (64*c) wr
def BlI (J:Nat→World→Prop) (c:Nat) (v:Value) (wr:World):Prop:=∃j:Nat,j≤64∧v= .int .i64 (j:Nat)∧J (64*c+j) wr
theorem kFk (w0:World)(g:Nat)(T:kAp Int)(hk:kBk T)(h0:0<T.low.length)(ht:kAu val8 141 64 w0 g T)(cf:Nat)(lb:Array Value)(J:Nat→World→Prop)(Jx:World→Prop)(w:World)(eg:∀args W,(callFunc cf args).run Tryz.prog W= .ok (.enter cf args) W)
  (hJ:∀k W,J k W→kJ2 w0 W)
  (hcall:∀k W (b o:Nat),k<17408→J k W→w0.rangeAt b o (kAh val8 (kG9 T k))→
   Calls Tryz.prog cf (#[.pointer (some ⟨b,o,none⟩)]++lb) W fun e W'=>(e= .returned (.bool true)∧J (k+1) W')∨(e= .returned (.bool false)∧Jx W'))
  (h1:J 0 w):
  Calls Tryz.prog 116 #[.pointer (some ⟨g,0,none⟩),.func (.func cf) #[] lb] w fun e w'=>(∃v,e= .returned v)∧(J 17408 w'∨Jx w'):=by
 have HJ:=jH hJ;clear hJ
 have HCl:=jH hcall;clear hcall
 have H1:=jH h1;clear h1
 have HEg:=jH eg;clear eg
 have HK:=jH hk;clear hk
 obtain⟨am,cm,al,cl,hh1,hh2,hh3⟩:=ht
 have HG1:=jH hh1;have HG2:=jH hh2;have HG3:=jH hh3
 clear hh1 hh2 hh3;have hh1:=(HJ.out 0 w H1.out).block HG1.out
 have HR0:Hid (w.rangeAt g 0 (kAh kAb T.top)):=jH (by
  intro j v hv
  have hjl:j<T.top.length:=by
   have:=(List.getElem?_eq_some_iff.1 hv).1;rw[kAf (sz:=1) (fun _=>rfl)]at this;omega
  rw[Nat.zero_add,kAu.cell_top (val:=val8) HK.out hh1 j (by rw[←HK.out.top];exact hjl),kA7 (d:=0) hjl,←hv,kCf kBj _ j hjl])
 have hts:(kAh kAb T.top).length=272:=by rw[kAf (sz:=1) (fun _=>rfl),HK.out.top]
 clear hh1
 go_enter Tryz.func116,Tryz.ntmps116
 go_upto_region 0 with(fail)
 refine wp_region_list ?_;refine kAc (v:= .pointer (some ⟨g,0,none⟩)) (w':=w) rfl (by rfl) ?_;refine kAc (v:= .pointer (some ⟨g,0,none⟩)) (w':=w) rfl (by rfl) ?_;refine kAc (v:= .pointer (some ⟨g,0,none⟩)) (w':=w) rfl (by go_simp) ?_;refine wpList_load_mid rfl 135 (.tmp 10) rfl g 0 rfl (kAh kAb T.top) (.array 272 29) HR0.out Tryz.underlying135 rfl (by rw[hts];kernel_rfl) ?_
 have HTop:Hid (∀c,c<272→(kAh kAb T.top).toArray[c]? =some (kAb (T.top.getD c 0))):=jH (fun c hc=>by
  have hcl:c<T.top.length:=by rw[HK.out.top];exact hc
  rw[List.getElem?_toArray,kCf kBj _ c hcl,kA7 (d:=0) hcl])
 generalize (kAh kAb T.top).toArray=top at*;clear hts HR0;go_wp2
 go_loopw [12] (BlO J) (fun i _=>272 - (intOf i).toNat)
 case atStart=>exact⟨0,Nat.zero_le _,rfl,H1.out⟩
 case round=>
  obtain⟨c,hc,rfl,hj⟩:=hrel
  have HJc:=jH hj;clear hj
  by_cases hcn:c<272
  ·have hci:(c:Int)<272:=by omega
   have a1:=kHh top c _ hcn (HTop.out c hcn) wr
   have htl:c<T.top.length:=by rw[HK.out.top];exact hcn
   have hil:T.top.getD c 0<T.mid.length:=by rw[kA7 (d:=0) htl];exact HK.out.topN _ (List.getElem_mem htl)
   obtain⟨i,hi⟩:∃i,i=T.top.getD c 0:=⟨_,rfl⟩
   rw[←hi]at a1 hil
   have HI:=jH hi;clear hi
   have hly:=HJ.out _ _ HJc.out;have c1:=kAu.cell_mid (val:=val8) HK.out (hly.block HG1.out);obtain⟨bm,om,rfl⟩:=HG2.out.some (by omega);have HR:=jH (hly.range (HG2.out.get i hil));clear hly;have hml:(T.mid[i]).length=64:=HK.out.mid _ (List.getElem_mem hil)
   have hms:(kAh kAb T.mid[i]).length=64:=by rw[kAf (sz:=1) (fun _=>rfl),hml]
   have hnm:T.mid.length≤272:=HK.out.midL
   have HMid:Hid (∀j,j<64→(kAh kAb T.mid[i]).toArray[j]? =some (kAb ((T.mid.getD i []).getD j 0))):=jH (fun j hj=>by
    rw[List.getElem?_toArray,kCf kBj _ j (by omega),kA7 (d:=[]) hil,kA7 (d:=0) (by omega)])
   unfold kAb at a1
   have g1:(0:Int)≤(i:Int):=by omega
   have g2:(i:Int)<((T.mid.length:Nat):Int):=by omega
   generalize hnn:T.mid.length=nm at c1 g2 hnm;clear hnn
   go_upto_region 3 with(fail)
   refine wp_region_list ?_;refine kAc (v:= .pointer (some ⟨g,0,none⟩)) (w':=wr) rfl (by rfl) ?_;refine kAc (v:= .pointer (some ⟨g,0,none⟩)) (w':=wr) rfl (by rfl) ?_;refine kAc (v:= .pointer (some ⟨g,272,none⟩)) (w':=wr) rfl (by go_simp) ?_;refine kAc (v:= .slice (some ⟨bm,om,none⟩) nm cm) (w':=wr) rfl (by go_simp) ?_;refine kAc (v:= .int .u16 (i:Nat)) (w':=wr) rfl (by rfl) ?_;refine kAc (v:= .pointer (some ⟨bm,om+i*64,none⟩)) (w':=wr) rfl (by go_simp) ?_;refine wpList_load_mid rfl 145 (.tmp 20) rfl bm (om+i*64) rfl (kAh kAb T.mid[i]) (.array 64 29) HR.out Tryz.underlying145 rfl (by rw[hms];kernel_rfl) ?_;generalize (kAh kAb T.mid[i]).toArray=mid at*;clear hms HR c1 g1 g2 hnm a1;go_wp2
   go_loopw [22] (BlI J c) (fun i _=>64 - (intOf i).toNat)
   case atStart=>exact⟨0,Nat.zero_le _,rfl,HJc.out⟩
   case round=>
    obtain⟨j,hj,rfl,hjj⟩:=hrel
    have HJj:=jH hjj;clear hjj
    by_cases hjn:j<64
    ·have hji:(j:Int)<64:=by omega
     have b1:=kHg mid j _ hjn (HMid.out j hjn) wr;have hly:=HJ.out _ _ HJj.out;have c2:=kAu.cell_low (val:=val8) HK.out (hly.block HG1.out);clear hly
     have hkk:64*c+j<17408:=by omega
     have hLow:kG9 T (64*c+j)=T.low.getD ((T.mid.getD i []).getD j 0) []:=by
      unfold kG9;rw[show(64*c+j) / 64=c by omega,show(64*c+j) % 64=j by omega,←HI.out]
     have hmj:j<(T.mid[i]).length:=by rw[hml];exact hjn
     have hll:(T.mid.getD i []).getD j 0<T.low.length:=by
      rw[kA7 (d:=[]) hil,kA7 (d:=0) hmj];exact HK.out.midN _ (List.getElem_mem hil) _ (List.getElem_mem hmj)
     obtain⟨q,hq⟩:∃q,q=(T.mid.getD i []).getD j 0:=⟨_,rfl⟩
     rw[←hq]at b1 hLow hll;obtain⟨bl,ol,rfl⟩:=HG3.out.some (by omega)
     have HRl:Hid (w0.rangeAt bl (ol+q*64) (kAh val8 (kG9 T (64*c+j)))):=jH (by
      rw[hLow,kA7 (d:=[]) hll]
      exact HG3.out.get q hll)
     have hnl:T.low.length≤17408:=HK.out.lowL;clear hq hLow;unfold kAb at b1
     have g3:(0:Int)≤(q:Int):=by omega
     have g4:(q:Int)<((T.low.length:Nat):Int):=by omega
     generalize hnn:T.low.length=nl at c2 g4 hnl;clear hnn hll hmj hil hml;have heg:=HEg.out
     go_wp2_with fail
     refine(HCl.out (64*c+j) wr bl (ol+q*64) hkk HJj.out HRl.out).mono ?_
     rintro e w5 (⟨rfl,h5⟩ | ⟨rfl,h5⟩)
     ·have H5:=jH h5;clear h5 heg
      go_wp2
      go_roundw
      case rel=>exact⟨j+1,by omega,by go_num,by rw[←Nat.add_assoc];exact H5.out⟩
      case measure=>simp[intOf];omega
     ·have H5:=jH h5;clear h5 heg
      go_wp2
      refine jS (results_none rfl _ _ _) rfl ?_;exact⟨⟨_,rfl⟩,.inr H5.out⟩
    ·obtain rfl:j=64:=by omega
     have HJ6:Hid (J (64*(c+1)) wr):=jH HJj.out;go_wp2
     go_roundw
     case rel=>exact⟨c+1,by omega,by go_num,HJ6.out⟩
     case measure=>simp[intOf];omega
  ·obtain rfl:c=272:=by omega
   have hJ2:J 17408 wr:=HJc.out
   have HJ2:=jH hJ2;clear hJ2
   go_wp2
   go_end0
   exact⟨⟨_,rfl⟩,.inl HJ2.out⟩
end Go.Proofs.YtbmphakfgoompaaGreat

namespace Go.Proofs.YtbmphakfgoompaaGreat
open Go.RowKit
attribute [local go_sem] Oper.semAt_some
end Go.Proofs.YtbmphakfgoompaaGreat
