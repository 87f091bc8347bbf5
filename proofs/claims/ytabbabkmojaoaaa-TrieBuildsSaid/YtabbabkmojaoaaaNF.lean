/- several texts in one: TU TV TX BPX RQ RC -/
import Derived.Test.YtabbabkmojaoaaaNE
import Derived.Deep.RegionLaw
import Derived.Deep.MidRow
import Derived.Sort.QuietIn
import Derived.Test.YtabbabkmojaoaaaNB
import Derived.Great.BuildSlice
set_option linter.unusedVariables false
set_option linter.unusedSimpArgs false
set_option maxRecDepth 100000
set_option maxHeartbeats 16000000
namespace Go.Proofs.Ytabbabkmojaoaaa
theorem kJg {f:Nat→Int}{j:Nat}{v:Int}(h:∀i,i<64→f (64*j+i)=v):blkF f j=List.replicate 64 v:=by
 rw[List.eq_replicate_iff];refine⟨kAu f j,fun x hx=> ?_⟩;obtain⟨i,hi,rfl⟩:=List.mem_map.1 hx;exact h i (List.mem_range.1 hi)
theorem kLe {f:Nat→Int}{c:Nat}{v:Int}(h:∀i,i<4096→f (4096*c+i)=v):kLv (blkF f) c=List.replicate 64 (List.replicate 64 v):=by
 rw[List.eq_replicate_iff];refine⟨by simp[kLv],fun x hx=> ?_⟩;obtain⟨j,hj,rfl⟩:=List.mem_map.1 hx;have hj:=List.mem_range.1 hj;refine kJg (fun i hi=> ?_);have:=h (64*j+i) (by omega);rw[show 4096*c+(64*j+i)=64*(64*c+j)+i by omega]at this;exact this
theorem kBu.nl {f:Nat→Int}{S:MkS Int}(hS:kBu f S):S.lows.Nodup:=hS.made.inv.nl
theorem kDa {β:Type}:∀(L:List (List β)),(∀l∈L,l.length=64)→L.flatten.length=64*L.length
 | [],_=>rfl
 | l :: L,h=>by
  rw[List.flatten_cons,List.length_append,h l (by simp),kDa L (fun l hl=>h l (by simp[hl])),List.length_cons];omega
theorem kNg (rest:Int)(l:List SpanD)(x:SpanD)(hm:¬meetS (l++[x]) l.length)(hb:¬badS x):∀r,fS rest (l++[x]) r=if x.f.toNat≤r∧r≤x.t.toNat then x.v else fS rest l r:=by
 intro r
 have hb2:0≤x.f∧x.t≤1114111∧x.f≤x.t:=by unfold badS at hb;omega
 unfold fS;rw[kFw]
 by_cases h:x.f.toNat≤r∧r≤x.t.toNat
 ·have hh:kFd ((r:Nat):Int) x=true:=decide_eq_true (by omega)
  have h0:ownF l ((r:Nat):Int)=0:=Classical.byContradiction fun hn=>hm ⟨((r:Nat):Int),by simp[List.getD_eq_getElem?_getD,hh],by simpa using hn⟩
  rw[if_pos h,if_pos h0,if_pos hh,if_neg (by omega)];rw[show((l.length:Int)+1 - 1).toNat=l.length by omega];simp[List.getD_eq_getElem?_getD]
 ·have hh:¬kFd ((r:Nat):Int) x=true:=fun e=>by have:=of_decide_eq_true e;omega
  rw[if_neg h]
  by_cases h0:ownF l ((r:Nat):Int)=0
  ·rw[if_pos h0,if_neg hh];simp[h0]
  ·rw[if_neg h0,if_neg h0,if_neg h0]
   congr 1
   rcases ownF_le l ((r:Nat):Int)with h1 | ⟨i,hi,h1⟩
   ·exact absurd h1 h0
   ·rw[h1,show((i:Int)+1 - 1).toNat=i by omega];rw[List.getD_eq_getElem?_getD,List.getD_eq_getElem?_getD,List.getElem?_append_left hi]
end Go.Proofs.Ytabbabkmojaoaaa

namespace Go.Proofs.Ytabbabkmojaoaaa
open Go.RowKit
def awL:List SpanD:=[⟨65,90,5⟩]
theorem kK6:(∀j,j<awL.length→¬badS (awL.getD j default))∧∀j,j<awL.length→¬meetS awL j:=by
 refine⟨fun j hj=> ?_,fun j hj=> ?_⟩
 ·obtain rfl:j=0:=by simp[awL]at hj;exact hj
  simp[awL,badS]
 ·obtain rfl:j=0:=by simp[awL]at hj;exact hj
  rintro⟨x, -,h⟩;exact h rfl
theorem awF (r:Nat):fS 3 awL r=if 65≤r∧r≤90 then 5 else 3:=by
 have h:=kNg 3 [] ⟨65,90,5⟩ (fun⟨x,_,h⟩=>h rfl) (by simp[badS]) r;rw[show awL=[]++[⟨65,90,5⟩]from rfl,h];simp[fS,ownF]
theorem aw_two {S:MkS Int}(hS:kBu (fS 3 awL) S):S.lows.length=2∧S.mids.length=2:=by
 have hU:∀j,j≠1→blkF (fS 3 awL) j=List.replicate 64 3:=fun j hj=>kJg (fun i hi=>by rw[awF,if_neg (by omega)])
 have hA:blkF (fS 3 awL) 1≠List.replicate 64 3:=fun e=>by
  have:=congrArg (fun l=>l.getD 1 0) e;simp[blkF,awF]at this
 have hV:∀c,c≠0→kLv (blkF (fS 3 awL)) c=List.replicate 64 (List.replicate 64 3):=fun c hc=>kLe (fun i hi=>by rw[awF,if_neg (by omega)])
 have hB:kLv (blkF (fS 3 awL)) 0≠List.replicate 64 (List.replicate 64 3):=fun e=>by
  have h1:(kLv (blkF (fS 3 awL)) 0).getD 1 []=(List.replicate 64 (List.replicate 64 (3:Int))).getD 1 []:=by rw[e]
  unfold kLv at h1;rw[List.getD_eq_getElem?_getD,List.getD_eq_getElem?_getD,List.getElem?_map,List.getElem?_range (by omega),List.getElem?_replicate,if_pos (by omega)]at h1;exact hA (by simpa using h1)
 constructor
 ·have h1:=kHl S.lows [List.replicate 64 3,blkF (fS 3 awL) 1] hS.nl (fun x hx=>by
   obtain⟨j,hj,rfl⟩:=(hS.made.low_mem x).1 hx
   by_cases e:j=1
   ·rw[e];exact List.mem_cons_of_mem _ (List.mem_singleton.2 rfl)
   ·rw[hU j e];exact List.mem_cons_self)
  have h2:=kHl [List.replicate 64 3,blkF (fS 3 awL) 1] S.lows (by
   rw[List.nodup_cons]
   exact⟨fun h=>hA (List.mem_singleton.1 h).symm,List.nodup_cons.2 ⟨List.not_mem_nil,List.nodup_nil⟩⟩) (fun x hx=>by
   rw[hS.made.low_mem]
   rcases List.mem_cons.1 hx with rfl | hx
   ·exact⟨0,by omega,(hU 0 (by omega)).symm⟩
   ·rw[List.mem_singleton.1 hx];exact⟨1,by omega,rfl⟩)
  simp only[List.length_cons,List.length_nil]at h1 h2;omega
 ·have h1:=kHl (S.mids.map (kEo S.lows)) [List.replicate 64 (List.replicate 64 3),kLv (blkF (fS 3 awL)) 0] hS.made.big_nd (fun x hx=>by
   obtain⟨c,hc,rfl⟩:=(hS.made.big_mem x).1 hx
   by_cases e:c=0
   ·rw[e];exact List.mem_cons_of_mem _ (List.mem_singleton.2 rfl)
   ·rw[hV c e];exact List.mem_cons_self)
  have h2:=kHl [List.replicate 64 (List.replicate 64 3),kLv (blkF (fS 3 awL)) 0] (S.mids.map (kEo S.lows)) (by
   rw[List.nodup_cons]
   exact⟨fun h=>hB (List.mem_singleton.1 h).symm,List.nodup_cons.2 ⟨List.not_mem_nil,List.nodup_nil⟩⟩) (fun x hx=>by
   rw[hS.made.big_mem]
   rcases List.mem_cons.1 hx with rfl | hx
   ·exact⟨1,by omega,(hV 1 (by omega)).symm⟩
   ·rw[List.mem_singleton.1 hx];exact⟨0,by omega,rfl⟩)
  simp only[List.length_cons,List.length_nil,List.length_map]at h1 h2;omega
theorem kMd (a b c:Value)(w:World):(Instr.field 79 (.agg #[a,b,c]) 0).run Try.prog w= .ok a w:=by kernel_rfl
theorem kMc (a b c:Value)(w:World):(Instr.field 79 (.agg #[a,b,c]) 2).run Try.prog w= .ok c w:=by kernel_rfl
theorem kGy (w:World):Calls Try.prog 13 #[] w fun e w'=>e= .returned (.bool true)∧Below w.heap.size w w':=by
 have HA:=jH (show SpansAt (w.alloc (.cells #[.int .i32 65,.int .i32 90,.int .u8 5] 24)) (some ⟨w.heap.size,0,none⟩) awL from fun i hi=>by
  obtain rfl:i=0:=by simp[awL]at hi;exact hi
  refine⟨w.heap.size,0,rfl,?_,?_,?_⟩
  all_goals rw[jK _ w.heap.size _ _ _ (0,0) (jN w _)];rfl)
 have HB:=jH ((Below.refl w.heap.size w).alloc jR (.cells #[.int .i32 65,.int .i32 90,.int .u8 5] 24))
 go_enter Try.func13,Try.ntmps13
 go_wp2_with fail
 generalize (w.alloc (.cells #[.int .i32 65,.int .i32 90,.int .u8 5] 24))=w1 at*;refine(kD9 3 (some ⟨w.heap.size,0,none⟩) 1 1 awL w1 rfl (by omega) HA.out (fun s hs=>by simp[awL]at hs;subst hs;simp)).mono ?_;intro e w2 hq;obtain⟨hb,hq⟩:=kHv hq
 rcases hq with⟨i,hi,h1, -⟩ | ⟨-,k,hk,h1, -⟩ | ⟨-, -,g,S,rfl,hg,hS,hT⟩
 ·exact absurd h1 (kK6.1 i hi)
 ·exact absurd h1 (kK6.2 k hk)
 ·have HB2:=jH (kBq HB.out hb);have HT:=jH hT;have HS:=jH hS;obtain⟨n1,n2⟩:=aw_two hS;have HN:=jH (And.intro n1 n2);have hok:=hS.trie;have HOk:=jH hok;have hp:0<(kA1 S).low.length:=hS.pos.1;have HLk:=jH (fun(r:Int) (v:Int) (hv:fS 3 awL (kDe r)=v)=>show kAl 0 (kA1 S) (kDe r)=v from(hS.look (kDe r) (kFk r)).trans hv);clear hb hg hS hT n1 n2 hok
  go_wp2_with fail
  refine(kDm w2 g (kA1 S) HOk.out hp HT.out).mono ?_;rintro e w3 ⟨rfl,q,rfl⟩;rw[show(kA1 S).mid.length=2 from HN.out.2,show(kA1 S).low.length=2 from HN.out.1];have HB3:=jH (HB2.out.trans (below_drewN (Below.refl _ _) q));have HT3:Hid (kAj val8 114 64 (w2.drewN q) g (kA1 S)):=jH (HT.out.below (below_drewN (Below.refl w2.heap.size w2) q) jR);clear HT HB2;generalize w2.drewN q=w3 at*
  go_wp2_with fail
  refine(kDh w3 g (kA1 S) HOk.out hp HT3.out 64 (by omega) (by omega)).mono ?_;rintro e w4 ⟨rfl,q,rfl⟩;rw[HLk.out 64 3 (by rw[awF];simp[kDe])];have HB4:=jH (HB3.out.trans (below_drewN (Below.refl _ w3) q));have HT4:Hid (kAj val8 114 64 (w3.drewN q) g (kA1 S)):=jH (HT3.out.below (below_drewN (Below.refl w3.heap.size w3) q) jR);clear HT3 HB3;generalize w3.drewN q=w4 at*;unfold val8
  go_wp2_with fail
  refine(kDh w4 g (kA1 S) HOk.out hp HT4.out 65 (by omega) (by omega)).mono ?_;rintro e w5 ⟨rfl,q,rfl⟩;rw[HLk.out 65 5 (by rw[awF];simp[kDe])];have HB5:=jH (HB4.out.trans (below_drewN (Below.refl _ w4) q));have HT5:Hid (kAj val8 114 64 (w4.drewN q) g (kA1 S)):=jH (HT4.out.below (below_drewN (Below.refl w4.heap.size w4) q) jR);clear HT4 HB4;generalize w4.drewN q=w5 at*;unfold val8
  go_wp2_with fail
  refine(kDh w5 g (kA1 S) HOk.out hp HT5.out 90 (by omega) (by omega)).mono ?_;rintro e w6 ⟨rfl,q,rfl⟩;rw[HLk.out 90 5 (by rw[awF];simp[kDe])];have HB6:=jH (HB5.out.trans (below_drewN (Below.refl _ w5) q));have HT6:Hid (kAj val8 114 64 (w5.drewN q) g (kA1 S)):=jH (HT5.out.below (below_drewN (Below.refl w5.heap.size w5) q) jR);clear HT5 HB5;generalize w5.drewN q=w6 at*;unfold val8
  go_wp2_with fail
  refine(kDh w6 g (kA1 S) HOk.out hp HT6.out (-1) (by omega) (by omega)).mono ?_;rintro e w7 ⟨rfl,q,rfl⟩;rw[HLk.out (-1) 3 (by rw[awF];simp[kDe])];have HB7:=jH (HB6.out.trans (below_drewN (Below.refl _ w6) q));have HT7:Hid (kAj val8 114 64 (w6.drewN q) g (kA1 S)):=jH (HT6.out.below (below_drewN (Below.refl w6.heap.size w6) q) jR);clear HT6 HB6;generalize w6.drewN q=w7 at*;unfold val8
  go_wp2_with fail
  have fp0:=kMd;have fp2:=kMc;refine(kCi w7 g (kA1 S) HOk.out hp HT7.out).mono ?_;rintro e w8 ⟨at8,ct8,am8,cm8,al8,cl8,rfl, -, -, -,hb⟩;rw[show(kA1 S).mid.length=2 from HN.out.2,show(kA1 S).low.length=2 from HN.out.1];have HB8:=jH (HB7.out.trans (hb.mono HB7.out.size));have HT8:=jH (HT7.out.below hb jR);clear HT7 HB7 hb;simp only[Nat.reduceMul]
  go_wp2_with fail
  refine(kCi w8 g (kA1 S) HOk.out hp HT8.out).mono ?_;rintro e w9 ⟨at9,ct9,am9,cm9,al9,cl9,rfl, -, -, -,hb⟩;rw[show(kA1 S).mid.length=2 from HN.out.2,show(kA1 S).low.length=2 from HN.out.1];have HB9:=jH (HB8.out.trans (hb.mono HB8.out.size));have HT9:=jH (HT8.out.below hb jR);clear HT8 HB8 hb;simp only[Nat.reduceMul];go_wp2
  go_ret
  exact⟨rfl,HB9.out⟩
end Go.Proofs.Ytabbabkmojaoaaa

namespace Go.Proofs.Ytabbabkmojaoaaa
open Go.RowKit
def okS (l:List SpanD):Prop:=(∀j,j<l.length→¬badS (l.getD j default))∧∀j,j<l.length→¬meetS l j
end Go.Proofs.Ytabbabkmojaoaaa

namespace Go.Proofs.Ytabbabkmojaoaaa
open Go.RowKit
theorem kM1 {P:Program}(w:World)(base:Nat)(t ty e:TypeId)(i:TypeInfo)(z:Value)(size bytes:Nat)(ht:P.underlying t=some (.slice e))(hi:P.info? e=some i)(hz:i.zero=some z)
  (hsize:i.size=size)(hby:i.bytes=bytes)(hzs:z.cells.size=size)(hsz:0<size)
  (v:Value)(n:Nat)(xs:List Value)(hown:w.ownsRow base e size v n xs)
  (a:Addr)(m c:Nat)(news:List Value)(hl:news.length=m*size)(hnews:∀j u,news[j]? =some u→w.cell? (a.add j)=some u)(h1:∀u∈news,u.oneCell'=true)
  (h63:n+m≤maxLen)(hbytes:(n+m)*bytes≤140737488355328)(hbase:base≤w.heap.size):
  ∃v' w',(Builtin.append_ #[t,t] ty #[v,.slice (some a) m c]).run P w= .ok v' w'∧w'.ownsRow base e size v' (n+m) (xs++news)∧w.grownBy w' v.ownBlock∧kBk w v v'∧w'.ownsRow base e size v n xs:=by
 obtain⟨v',w',hr,h2,h3,h4⟩:=kGp (P:=P) w base t ty e i z size bytes ht hi hz hsize hby hzs hsz v n xs hown a m c news hl hnews h1 h63 hbytes hbase;refine⟨v',w',hr,h2,h3,h4,?_⟩;have hown0:=hown;subst hsize;subst hby
 have hsmall:n+m≤9223372036854775807:=by simp only[maxLen]at h63;omega
 rcases hown.2 with⟨rfl,rfl⟩ | ⟨g,cap,cur,rfl,hbg,hg,hnc,hcm,hcs,htake⟩
 ·have hx:xs=[]:=List.eq_nil_of_length_eq_zero (by have:=hown.1;simpa using this);subst hx;exact World.ownsRow_nil _ _ _ _
 ·by_cases hroom:n+m≤cap
  ·have hfit:n*i.size+news.length≤cur.size:=by rw[hl,hcs,←Nat.add_mul];exact Nat.mul_le_mul_right _ hroom
   have hr2:=run_append_room (P:=P) w t ty e i ht hi g n cap cur hg a m c news hl hnews h1 hroom hfit;rw[hr2]at hr;simp only[Result.ok.injEq]at hr;obtain⟨rfl, -⟩:=hr
   rcases h2.2 with⟨h5, -⟩ | ⟨g',cap',cur',h5, -,hg', -, -,hcs',htake'⟩
   ·cases h5
   ·simp only[Value.slice.injEq,Option.some.injEq,Addr.mk.injEq,and_true,true_and]at h5;obtain⟨rfl,rfl⟩:=h5;refine⟨hown0.1,.inr ⟨g,cap,cur',rfl,hbg,hg',hnc,hcm,hcs',?_⟩⟩;have h6:=congrArg (List.take (n*i.size)) htake';rw[List.take_take,Nat.min_eq_left (Nat.mul_le_mul_right _ (Nat.le_add_right _ _)),←hown0.1,List.take_left]at h6;rw[←hown0.1];exact h6
  ·have holds:∀j u,xs[j]? =some u→w.cell? ((⟨g,0,none⟩:Addr).add j)=some u:=hown.cells (g:=g) rfl;have hr2:=run_append_grow (P:=P) w t ty e i z ht hi hz ⟨g,0,none⟩ n cap xs hown.1 holds a m c news hl hnews (by omega) (by omega) (growslice_fits (by omega) hbytes);rw[hr2]at hr;simp only[Result.ok.injEq]at hr;rw[←hr.2];exact World.ownsRow.alloc (World.ownsRow.drew hown0) _
theorem kHf {P:Program}{t e:TypeId}{z:Value}{size bytes:Nat}(el:kEs P t e z size bytes){w:World}{ops:Array Oper}{rest:List Oper}{o:Oper}{act:Act}{Q:Exit→Act→World→Prop}(hgd:o.guard=none)(s x:Operand)
  (ho:o.op= .call {callee:= .builtin .append,args:= #[s,x],argTypes:= #[t,t]}){B:Nat}{a:Option Addr}{n cap:Nat}{xs:List Value}(hown:w.ownsRow B e size (.slice a n cap) n xs)(hB:B≤w.heap.size)(b m c:Nat)(news:List Value)(hl:news.length=m*size)(hm0:0<m)
  (hnews:∀j u,news[j]? =some u→w.cell? ⟨b,j,none⟩=some u)(h1:∀u∈news,u.oneCell'=true)(hn:(n+m)*bytes≤140737488355328)(hm:n+m≤maxLen)
  (hs:act.eval s= .slice a n cap)(hx:act.eval x= .slice (some ⟨b,0,none⟩) m c)
  (h:∀a' cap' w',w'.ownsRow B e size (.slice a' (n+m) cap') (n+m) (xs++news)→w.grownBy w' (Value.slice a n cap).ownBlock→kBk w (.slice a n cap) (.slice a' (n+m) cap')→w'.ownsRow B e size (.slice a n cap) n xs→wpList P ops Q rest (act.put o.dst (.slice a' (n+m) cap')) w'):
  wpList P ops Q (o :: rest) act w:=by
 obtain⟨i,hi,hz,h5,hb⟩:=info_parts el.inf
 refine wpList_plain hgd fun K hK'=> ?_
 obtain⟨v',w',hr,h2,h3,h4,h6⟩:=kM1 (P:=P) w B t o.type e i z size bytes el.und hi hz h5 hb el.sz el.pos _ n xs hown ⟨b,0,none⟩ m c news hl (fun j u hu=>by rw[Addr.add_lit,Nat.zero_add];exact hnews j u hu) h1 hm hn hB;unfold Oper.wp execOp;simp only[ho,resolve,invoke,builtin,Sem.run_bind,Sem.run_pure,Result.andThen_ok,List.map_toArray,List.map_cons,List.map_nil,hs,hx,hr]
 have hv':∃a' cap',v'= .slice a' (n+m) cap':=by
  rcases h2.2 with⟨rfl,h0⟩ | ⟨g,cap',cur,rfl,_⟩
  ·omega
  ·exact⟨_,_,rfl⟩
 obtain⟨a',cap',rfl⟩:=hv';exact hK' _ _ (h a' cap' w' h2 h3 h4 h6)
theorem kDf (g:Nat):∀(vs:List Value) (w:World) (o:Nat),w.grownBy (w.setCells g o vs) (some g)
 | [],w,o=>⟨rfl,rfl,rfl,Nat.le_refl _,fun _ _ _=>rfl⟩
 | v :: vs,w,o=>kAm (kAe w g o v) (kDf g vs (w.setCell ⟨g,o,none⟩ v) (o+1))
theorem kCw {P:Program}{o:Oper}{a:Act}{w:World}(ty:TypeId)(x y:Operand)(ho:o.op= .store ty x y)(g j:Nat)(v:Value)(hx:a.eval x= .pointer (some ⟨g,j,none⟩))(hy:a.eval y=v)(ht:w.there g j v.cells.size)(hi:(P.info? ty).map (·.size)=some v.cells.size)(h1:v.cells.all (·.oneCell')=true):
  (execOp a.eval o).run P w= .ok .skip (w.setCells g j v.cells.toList):=by
 subst hy
 have h2:(storeVar ty ⟨g,j,none⟩ (a.eval y)).run P w= .ok () (w.setCells g j (a.eval y).cells.toList):=by
  generalize a.eval y=v at*
  have:=run_storeCells_cells (P:=P) g j v.cells.toList 0 w (fun i hi=>by simpa using (ht i (by simpa using hi)).1) (fun i hi=>by simpa using (ht i (by simpa using hi)).2)
   (fun u hu=>(Array.all_eq_true_iff_forall_mem.1 h1) u (by simpa using hu))
  cases hq:P.info? ty with
  | none=>simp[hq]at hi
  | some i=>
   have hs:v.cells.size=i.size:=by simp[hq]at hi;omega
   simp only[Nat.add_zero]at this;simp[storeVar,sizeOf,typeInfo,hq,hs,this]
 unfold execOp;simp only[ho,hx,Instr.storeAt,Instr.sureAddr,Sem.run_bind,Sem.run_pure,Result.andThen_ok,h2]
theorem kD5 {B n c:Nat}{E:TypeId}{w:World}{g size:Nat}{xs:List Value}(h:w.ownsRow B E size (.slice (some ⟨g,0,none⟩) n c) n xs)(hn:0<n):w.there g 0 size:=fun j hj=>by
 have hj2:j<n*size:=Nat.lt_of_lt_of_le hj (Nat.le_mul_of_pos_left _ hn);refine⟨?_,World.ownsRow.frozenAt h (0+j)⟩;rw[World.ownsRow.cellAt h (0+j) (by omega),Nat.zero_add,List.getElem?_eq_getElem (by rw[h.1];exact hj2)]
 rfl
theorem kJw {B n c:Nat}{E:TypeId}{size:Nat}{g:Nat}:∀(vs:List Value) (w:World) (o:Nat) (xs:List Value),w.ownsRow B E size (.slice (some ⟨g,0,none⟩) n c) n xs→∃ys,(w.setCells g o vs).ownsRow B E size (.slice (some ⟨g,0,none⟩) n c) n ys
 | [],w,o,xs,h=>⟨xs,h⟩
 | v :: vs,w,o,xs,h=>kJw vs (w.setCell ⟨g,o,none⟩ v) (o+1) (xs.set o v) (World.ownsRow.stored h o v).1
end Go.Proofs.Ytabbabkmojaoaaa

namespace Go.Proofs.Ytabbabkmojaoaaa
open Go.RowKit
def kH1 (o:Oper):Bool:=match o.op with
 | .defer _=>false
 | _=>true
theorem kLl {o:Oper}(h:kH1 o=true):∀c,o.op≠ .defer c:=by
 intro c e;unfold kH1 at h;rw[e]at h;cases h
theorem kF2 {B:Nat}{w W:World}(h:Below B w W)(D:Nat)(ob:Obj)(hD:B≤D):Below B w (W.putObj D ob):=
 h.trans ⟨rfl,rfl,rfl,by simp,fun k hk=>World.putObj_heap_other (by omega)⟩
theorem kEq (f:FuncId):Fence.wide.fn f=True:=by first | rfl | exact eq_true trivial
section
variable {F : Fence} {n : Nat} {P : Program} {ops : Array Oper} {md : Region.Mode} {C : World → Prop}
theorem kJf {o:Oper}{a:Act}{K:Act→Prop}{K':Act→World→Prop}{Q':Exit→Act→World→Prop}{w:World}(hro:kH1 o=true)(hw:C w)(h:∀a w',C w'→K a→K' a w')
  (ha:o.askedIn F P a C)(hh:o.quietIn F n P a C K):o.wpIn F n P a w K' Q':=by
 obtain⟨v,h1,h2⟩:=hh;have h3:=h1 w hw;unfold Oper.quietAtIn at h3;unfold Oper.wpIn;refine⟨ha w hw,?_⟩;rw[Oper.semAt_eq _ _ _ (kLl hro)];generalize (execOp a.eval o).run P w=r at*
 cases r with
 | ok x w'=>
  cases x<;>simp only[Oper.quietUponIn]at h3<;>simp only[Oper.uponIn]
  case value u=>
   obtain⟨e1,e2⟩:=h3;rw[e1,e2];exact h _ _ hw h2
  case skip=>
   obtain⟨e1,e2⟩:=h3;rw[e1,←e2];exact h _ _ hw h2
  case enter f args=>
   obtain⟨e1,hd,hc⟩:=h3;rw[e1];exact⟨hd,hc.mono fun e w'' ⟨he,hw''⟩=>by subst he;exact h _ _ hw'' h2⟩
 | halt x w'=>simp only[Oper.quietUponIn]at h3
theorem kIe {i:Nat}{a:Act}{K:Act→Prop}{K':Act→World→Prop}{Q':Exit→Act→World→Prop}{w:World}(hro:∀(i:Nat) (o:Oper),ops[i]? =some o→kH1 o=true)(hC:C w)(h:∀a w',C w'→K a→K' a w')
  (hh:qOpIn F n P ops C i K a):wpOpIn F n P ops Q' i K' a w:=by
 unfold qOpIn at hh;unfold wpOpIn
 split
 ·rename_i ho;simp only[ho]at hh;exact h _ _ hC hh
 ·rename_i o ho
  simp only[ho]at hh;obtain⟨ha,hh⟩:=hh
  split
  ·rename_i hw;simp only[hw,if_true]at hh;exact kJf (hro _ _ ho) hC h ha hh
  ·rename_i hw;simp only[hw]at hh;exact⟨ha w hC,h _ _ hC hh⟩
theorem kF1 {Q:Act→Prop}{Q':Exit→Act→World→Prop}(hro:∀(i:Nat) (o:Oper),ops[i]? =some o→kH1 o=true)(hQ:∀a w,C w→Q a→Q' .normal a w):∀(fuel:Nat) (listed:Array Bool) (a:Act) (w:World),C w→
  wpAnyQIn F n P md ops C Q fuel listed a→wpAnyIn F n P md ops Q' fuel listed a w
 | 0,_,_,_,hw,h=>⟨h.1,hQ _ _ hw h.2⟩
 | fuel+1,_,_,_,hw,h=>⟨fun h0=>hQ _ _ hw (h.1 h0),fun i hi=>kIe hro hw (fun a' w' hw'=>kF1 hro hQ fuel _ a' w' hw') (h.2 i hi)⟩
end
end Go.Proofs.Ytabbabkmojaoaaa

namespace Go.Proofs.Ytabbabkmojaoaaa
open Go.RowKit
theorem kL4 (off:Nat)(cs:List Value):∀(k:Nat) (z:Array Value) (i:Nat),((cs.zipIdx k).foldl (fun cs x=>cs.setIfInBounds (off+x.snd) x.fst) z)[i]? =if off+k≤i∧i<off+k+cs.length∧i<z.size then cs[i - off - k]? else z[i]? :=by
 induction cs with
 | nil=>intro k z i;simp;intro h1 h2;omega
 | cons c cs ih=>
  intro k z i;rw[List.zipIdx_cons,List.foldl_cons,ih];simp only[Array.size_setIfInBounds,List.length_cons,Array.getElem?_setIfInBounds]
  by_cases h1:off+k=i
  ·subst h1;rw[if_neg (by omega),if_pos rfl]
   by_cases h2:off+k<z.size
   ·rw[if_pos h2,if_pos (by omega)];simp[show off+k - off - k=0 by omega]
   ·rw[if_neg h2,if_neg (by omega)];simp;omega
  ·rw[if_neg h1]
   by_cases h2:off+(k+1)≤i∧i<off+(k+1)+cs.length∧i<z.size
   ·rw[if_pos h2,if_pos (by omega)];rw[show i - off - k=(i - off - (k+1))+1 by omega];simp
   ·rw[if_neg h2,if_neg (by omega)]
theorem kLi (off:Nat)(cs:List Value):∀(k:Nat) (z:Array Value),((cs.zipIdx k).foldl (fun cs x=>cs.setIfInBounds (off+x.snd) x.fst) z).size=z.size:=by
 induction cs with
 | nil=>intro k z;rfl
 | cons c cs ih=>intro k z;rw[List.zipIdx_cons,List.foldl_cons,ih];simp
theorem kNh (pl:Nat→Option (Nat×Nat))(z xs:Array Value)(s1 s2:Value)(hz:z.size=274)(hxs:xs.size=272)(h1:s1.cells= #[s1])(h2:s2.cells= #[s2])(p0:pl 0=some (0,272))(p1:pl 1=some (272,1))(p2:pl 2=some (273,1)):
  Instr.fill pl z [(0,.agg xs),(1,s1),(2,s2)]=some (xs.toList++[s1,s2]).toArray:=by
 have hc:(Value.agg xs).cells=xs:=rfl
 obtain⟨y,hy⟩:∃y,y=(xs.toList.zipIdx).foldl (fun cs x=>cs.setIfInBounds (0+x.snd) x.fst) z:=⟨_,rfl⟩
 have hys:y.size=274:=by rw[hy,kLi];exact hz
 have e1:(xs.zipIdx.foldl (fun cs (x:Value×Nat)=>cs.setIfInBounds (0+x.2) x.1) z)=y:=by
  rw[hy,←Array.foldl_toList,Array.toList_zipIdx]
 rw[Instr.fill,p0];simp only[hc,hxs,hz];rw[if_neg (by simp)];rw[Instr.fill,p1];have e2:(Array.foldl (fun cs x=>match x with | (c,j)=>cs.setIfInBounds (0+j) c) z xs.zipIdx)=y:=e1;simp only[h1];rw[e2];rw[if_neg (by simp[hys])];rw[Instr.fill,p2];simp only[h2];rw[if_neg (by simp[hys])];rw[Instr.fill];simp only[Array.zipIdx,List.size_toArray]
 congr 1
 apply Array.ext_getElem?
 intro i;simp[Array.getElem?_setIfInBounds,hys]
 have hg:y[i]? =if i<272 then xs[i]? else z[i]? :=by
  rw[hy,kL4]
  by_cases hi:i<272
  ·rw[if_pos (by simp;omega),if_pos hi];simp
  ·rw[if_neg (by simp;omega),if_neg hi]
 rw[List.getElem?_append]
 by_cases hi:i<272
 ·rw[if_neg (by omega),if_neg (by omega),hg,if_pos hi,if_pos (by simp;omega)];simp
 ·rw[if_neg (show ¬i<xs.toList.length by simp;omega)]
  by_cases h3:273=i
  ·subst h3;simp[hxs]
  ·by_cases h4:272=i
   ·subst h4;simp[hxs]
   ·rw[if_neg h3,if_neg h4,hg,if_neg hi,Array.getElem?_eq_none (by omega),List.getElem?_eq_none (by simp;omega)]
def kMm (o:Oper):Bool:=match o.op with
 | .defer _=>false
 | .select .. =>false
 | _=>true
theorem kFu {o:Oper}(h:kMm o=true):∀c,o.op≠ .defer c:=by
 intro c e;unfold kMm at h;rw[e]at h;cases h
theorem kKv {o:Oper}(h:kMm o=true):∀cs b,o.op≠ .select cs b:=by
 intro cs b e;unfold kMm at h;rw[e]at h;cases h
section
variable {F : Fence} {n : Nat} {P : Program} {ops : Array Oper} {Q : Exit → Act → World → Prop} {md : Region.Mode} {C : World → Prop}
theorem kNe {j:Nat}{oi oj:Oper}{v:Value}(hcj:kMm oj=true)(hci:kDb oi=true)(hj:ops[j]? =some oj)(hap:oi.apart ops oj=true)
  (hQ:∀c a w,Q (.panic c) (a.put oi.dst v) w→Q (.panic c) a w){K:Act→World→Prop}{a:Act}{w:World}
  (hy:kFe P ops C oi v a)(h:wpOpIn F n P ops Q j K (a.put oi.dst v) w):
  wpOpIn F n P ops Q j (fun a' w'=>kFe P ops C oi v a'∧K (a'.put oi.dst v) w') a w:=by
 obtain⟨h1,h2,h3⟩:=Oper.apart_spec hap
 have keep:∀(a:Act),kFe P ops C oi v a→∀u,kFe P ops C oi v (a.put oj.dst u):=fun a hy u=>by
  unfold kFe at hy ⊢;rw[execOp_put oi (kF3 hci) a oj.dst u h3,wanted_put oi a oj.dst u h3];exact hy
 unfold wpOpIn at*;simp only[hj]at*;rw[wanted_put oj a oi.dst v h1,about_put oj w a oi.dst v h1]at h
 split
 ·rename_i hw
  simp only[hw,if_true]at h;unfold Oper.wpIn at*;rw[about_put oj w a oi.dst v h1]at h;refine⟨h.1,?_⟩;have h:=h.2;rw[Oper.semAt_eq _ _ _ (kFu hcj),execOp_put oj (kKv hcj) a oi.dst v h1]at h;rw[Oper.semAt_eq _ _ _ (kFu hcj)];generalize hr:(execOp a.eval oj).run P w=r at*
  cases r with
  | ok x w'=>
   cases x<;>simp only[Oper.uponIn]at h ⊢
   case value u=>exact⟨keep a hy u,by rw[←Act.put_comm a v u h2];exact h⟩
   case skip=>exact⟨keep a hy _,by rw[←Act.put_comm a v undef h2];exact h⟩
   case defer d=>
    refine⟨keep _ (show kFe P ops C oi v {a with defers:=d :: a.defers}from hy) _,?_⟩;rw[←Act.put_comm _ v undef h2,←Act.put_defers];exact h
   case enter f args=>
    refine⟨h.1,CallsIn.mono h.2 fun e w'' he=> ?_⟩
    cases e with
    | returned u=>exact⟨keep a hy u,by rw[←Act.put_comm a v u h2];exact he⟩
    | panicked c=>exact hQ _ _ _ he
    | outgrown=>exact he
   case row row args=>exact⟨h.1,RowsIn.mono h.2 fun u w'' he=>⟨keep a hy u,by rw[←Act.put_comm a v u h2];exact he⟩⟩
   case round l f tmps assign body=>
    refine⟨h.1,RoundIn.mono h.2 fun e w'' he=> ?_⟩
    cases e with
    | returned u=>exact⟨keep a hy u,by rw[←Act.put_comm a v u h2];exact he⟩
    | panicked c=>exact hQ _ _ _ he
    | outgrown=>exact he
  | halt x w'=>
   cases x<;>simp only[Oper.uponIn]at h ⊢
   case panic u=>exact hQ _ _ _ h
 ·rename_i hw
  simp only[hw]at h;exact⟨h.1,keep a hy _,by rw[←Act.put_comm a v undef h2];exact h.2⟩
theorem kLd {M U:List Nat}{i:Nat}{oi:Oper}{v:Value}(hok:∀(j:Nat) (o:Oper),ops[j]? =some o→kMm o=true)(hci:kDb oi=true)(hi:ops[i]? =some oi)(hMU:∀j∈M,j∈U)(hU:UpOf md ops i U)
  (hQ:∀c a w,Q (.panic c) (a.put oi.dst v) w→Q (.panic c) a w):
  ∀(f:Nat) (l:Array Bool) (a:Act) (w:World),
   (∀j oj,ops[j]? =some oj→j≠i→l.getD j true=false→(∀e∈oj.after,Region.binds md e=true→e.on≠i)→oi.apart ops oj=true)→
   (∀j∈U,l.getD j true=false)→i∈Region.ready md ops l→kFe P ops C oi v a→C w→
   kGx F n P md ops Q M C f (l.setIfInBounds i true) (a.put oi.dst v) w→kGx F n P md ops Q M C (f+1) l a w:=by
 intro f
 induction f with
 | zero=>
  intro l a w _ hun hr hy hC H;refine⟨fun h=>(by rw[h]at hr;cases hr),fun j hj=> ?_⟩
  by_cases hji:j=i
  ·subst hji;exact hy.step hci hi hC ⟨fun _=>hC,H⟩
  ·have:=ready_mono hj hji;rw[H.1]at this;cases this
 | succ f ih=>
  intro l a w hfree hun hr hy hC H;refine⟨fun h=>(by rw[h]at hr;cases hr),fun j hj=> ?_⟩
  by_cases hji:j=i
  ·subst hji;exact hy.step hci hi hC ⟨fun _=>hC,H⟩
  ·have h1:=H.2 j (ready_mono hj hji);obtain⟨hjun,oj,hoj,hall⟩:=mem_ready.1 hj;have h0:=(mem_ready.1 hr).1
   have hnot:∀e∈oj.after,Region.binds md e=true→e.on≠i:=fun e he hb heq=>by
    have h1:=hall e he hb;rw[heq]at h1;exact kHj h1 h0
   have hjU:j∉U:=fun hjU=>by
    obtain⟨om,hom,e,he,hb,heq⟩:=hU j hjU;rw[hoj]at hom;cases hom
    rcases heq with heq | heq
    ·exact hnot e he hb heq
    ·exact kHj (hall e he hb) (hun _ heq)
   have h2:=kNe (hok _ _ hoj) hci hoj (hfree j oj hoj hji hjun hnot) hQ hy h1
   have hfree':∀k ok,ops[k]? =some ok→k≠i→(l.setIfInBounds j true).getD k true=false→
     (∀e∈ok.after,Region.binds md e=true→e.on≠i)→oi.apart ops ok=true:=fun k ok hk hki hun hno=>by
    refine hfree k ok hk hki ?_ hno
    by_cases hjk:j=k
    ·subst hjk;exact hjun
    ·rw[getD_set_ne true hjk]at hun;exact hun
   have hun':∀k∈U,(l.setIfInBounds j true).getD k true=false:=fun k hk=>by
    have hjk:j≠k:=fun e=>hjU (by rw[e];exact hk)
    rw[getD_set_ne true hjk];exact hun k hk
   refine wpOpIn_mono (fun a' w' h3=>⟨h3.2.1,ih (l.setIfInBounds j true) a' w' hfree' hun' (ready_mono hr (Ne.symm hji)) h3.1 (h3.2.1 (fun h=>hjU (hMU _ h))) ?_⟩) h2;rw[Array.setIfInBounds_comm _ _ hji];exact h3.2.2
theorem kAa (U:List Nat){M:List Nat}{i:Nat}{oi:Oper}{v:Value}{f:Nat}{l:Array Bool}{a:Act}{w:World}(hok:ops.all kMm=true)(hi:ops[i]? =some oi)(hci:kDb oi=true)(hB:kM2 md ops M U i l=true)
  (hQ:∀c a w,Q (.panic c) (a.put oi.dst v) w→Q (.panic c) a w)(hw:Region.wanted oi (yielded ops a.tmps)=true)(hv:∀w,C w→(execOp a.eval oi).run P w= .ok (.value v) w)(hC:C w)
  (h:kGx F n P md ops Q M C f (l.setIfInBounds i true) (a.put oi.dst v) w):kGx F n P md ops Q M C (f+1) l a w:=by
 simp only[kM2,Bool.and_eq_true]at hB;obtain⟨⟨⟨h1,h2⟩,h3⟩,h4⟩:=hB;simp only[List.all_eq_true,Bool.and_eq_true]at h3 h4
 refine kLd (U:=U) (fun j o hj=> ?_) hci hi (fun j hj=>by simpa using h3 j hj) ?_ hQ f l a w (Region.free_spec hi h1) (fun j hj=>by simpa using (h4 j hj).1) (by simpa using h2) ⟨hw,hv⟩ hC h
 ·rw[Array.all_eq_true_iff_forall_mem]at hok;exact hok o (Array.mem_of_getElem? hj)
 ·intro j hj;have h5:=(h4 j hj).2
  cases hm:ops[j]? with
  | none=>rw[hm]at h5;cases h5
  | some om=>
   rw[hm]at h5;simp only[Array.any_eq_true]at h5;obtain⟨k,hk,h6⟩:=h5;simp only[Bool.and_eq_true,Bool.or_eq_true,beq_iff_eq]at h6;exact⟨om,rfl,om.after[k],Array.getElem_mem hk,h6.1,by simpa using h6.2⟩
theorem kBg {o:Oper}{a:Act}{w:World}(f:FuncId)(x:Operand)(ts:Array TypeId)(ho:o.op= .call {callee:= .value (.func f),args:= #[x],argTypes:=ts})(v:Value)(hx:a.eval x=v)(eg:∀args W,(callFunc f args).run P W= .ok (.enter f args) W):
  (execOp a.eval o).run P w= .ok (.enter f #[v]) w:=by
 subst hx;unfold execOp;simp only[ho];simp[resolve,invoke,go_sem,eg,Act.eval]
theorem kB5 {o:Oper}{a:Act}{w:World}(t:TypeId)(x0 x1 x2:Operand)(ho:o.op= .build t #[(0,x0),(1,x1),(2,x2)])(v0 v1 v2 v:Value)(h0:a.eval x0=v0)(h1:a.eval x1=v1)(h2:a.eval x2=v2)(hr:(Instr.build t #[(0,v0),(1,v1),(2,v2)]).run P w= .ok v w):
  (execOp a.eval o).run P w= .ok (.value v) w:=by
 subst h0 h1 h2;unfold execOp;simp only[ho,List.map_toArray,List.map_cons,List.map_nil,Sem.run_bind,hr,Result.andThen_ok,Sem.run_pure]
theorem kA6 {o:Oper}{a:Act}{w:World}(ty:TypeId)(x y:Operand)(ho:o.op= .store ty x y)(g:Nat)(v:Value)(hx:a.eval x= .pointer (some ⟨g,0,none⟩))(hy:a.eval y=v)(h1:v.oneCell'=true)(t:TypeId)(old:Value)(hg:w.heap[g]? =some (.cells #[old] t (0,0)))(hi:(P.info? ty).map (·.size)=some 1):
  (execOp a.eval o).run P w= .ok .skip (w.setRow g #[v]):=by
 subst hy;unfold execOp;simp only[ho,hx,Instr.storeAt,Instr.sureAddr,Sem.run_bind,Sem.run_pure,Result.andThen_ok,run_storeVar_one w g t ty old _ hg hi h1]
theorem kCc {M:List Nat}{i:Nat}{o:Oper}{v:Value}{f:Nat}{l:Array Bool}{a:Act}{w w':World}(hi:ops[i]? =some o)(hc:kMm o=true)(hab:∀f,o.about P w a.eval=some f→F.fn f)
  (hw:Region.wanted o (yielded ops a.tmps)=true)(hv:(execOp a.eval o).run P w= .ok (.value v) w')(hC:i∉M→C w')(h:kGx F n P md ops Q M C f (l.setIfInBounds i true) (a.put o.dst v) w'):
  wpOpIn F n P ops Q i (fun a' w'=>(i∉M→C w')∧kGx F n P md ops Q M C f (l.setIfInBounds i true) a' w') a w:=by
 unfold wpOpIn;simp only[hi,hw,if_true,Oper.wpIn];refine⟨hab,?_⟩;rw[Oper.semAt_eq _ _ _ (kFu hc),hv];exact⟨hC,h⟩
theorem kEe {M:List Nat}{i:Nat}{o:Oper}{f:Nat}{l:Array Bool}{a:Act}{w w':World}(hi:ops[i]? =some o)(hc:kMm o=true)(hab:∀f,o.about P w a.eval=some f→F.fn f)
  (hw:Region.wanted o (yielded ops a.tmps)=true)(hv:(execOp a.eval o).run P w= .ok .skip w')(hC:i∉M→C w')(h:kGx F n P md ops Q M C f (l.setIfInBounds i true) (a.put o.dst undef) w'):
  wpOpIn F n P ops Q i (fun a' w'=>(i∉M→C w')∧kGx F n P md ops Q M C f (l.setIfInBounds i true) a' w') a w:=by
 unfold wpOpIn;simp only[hi,hw,if_true,Oper.wpIn];refine⟨hab,?_⟩;rw[Oper.semAt_eq _ _ _ (kFu hc),hv];exact⟨hC,h⟩
theorem kA9 {M:List Nat}{i:Nat}{o:Oper}{f:Nat}{l:Array Bool}{a:Act}{w:World}(hi:ops[i]? =some o)(hc:kMm o=true)
  (hw:Region.wanted o (yielded ops a.tmps)=true)(hab:∀f,o.about P w a.eval=some f→F.fn f){g:FuncId}{args:Array Value}(hv:(execOp a.eval o).run P w= .ok (.enter g args) w)(hd:F.depth.isSome=true→1≤n)
  (h:CallsIn F (n - 1) P g args w fun e w'=>∃v,e= .returned v∧(i∉M→C w')∧kGx F n P md ops Q M C f (l.setIfInBounds i true) (a.put o.dst v) w'):
  wpOpIn F n P ops Q i (fun a' w'=>(i∉M→C w')∧kGx F n P md ops Q M C f (l.setIfInBounds i true) a' w') a w:=by
 unfold wpOpIn;simp only[hi,hw,if_true,Oper.wpIn];refine⟨hab,?_⟩;rw[Oper.semAt_eq _ _ _ (kFu hc),hv];refine⟨hd,CallsIn.mono h fun e w'' ⟨v,he,h2⟩=> ?_⟩;subst he;exact h2
theorem kAk {M:List Nat}{i f:Nat}{l:Array Bool}{a:Act}{w:World}(hr:Region.ready md ops l=[i])(h:wpOpIn F n P ops Q i (fun a' w'=>(i∉M→C w')∧kGx F n P md ops Q M C f (l.setIfInBounds i true) a' w') a w):kGx F n P md ops Q M C (f+1) l a w:=by
 refine⟨fun h0=>(by rw[hr]at h0;cases h0),fun j hj=> ?_⟩;rw[hr]at hj
 obtain rfl:j=i:=by simpa using hj
 exact h
theorem kEm {M:List Nat}{i i' f:Nat}{l:Array Bool}{a:Act}{w:World}(hr:Region.ready md ops l=[i,i'])(h:wpOpIn F n P ops Q i (fun a' w'=>(i∉M→C w')∧kGx F n P md ops Q M C f (l.setIfInBounds i true) a' w') a w)
  (h':wpOpIn F n P ops Q i' (fun a' w'=>(i'∉M→C w')∧kGx F n P md ops Q M C f (l.setIfInBounds i' true) a' w') a w):kGx F n P md ops Q M C (f+1) l a w:=by
 refine⟨fun h0=>(by rw[hr]at h0;cases h0),fun j hj=> ?_⟩;rw[hr]at hj
 rcases List.mem_cons.1 hj with rfl | hj
 ·exact h
 ·obtain rfl:j=i':=by simpa using hj
  exact h'
end
end Go.Proofs.Ytabbabkmojaoaaa
