/- several texts in one: TWT PDT TZT SPT -/
import Derived.Test.YtabbabkmojaoaaaXB
import Derived.Test.YtabbabkmojaoaaaNH
import Derived.Deep.QuietTactic
import Derived.BigQuiet
import Derived.Lib.Hide
import Derived.Test.YtabbabkmojaoaaaNE
import Derived.RangeFuncBound
import Derived.OwnWalkIn
import Derived.TacticsInMore
import Derived.LoopNIn
import Derived.LoopIn
import Derived.Deep.Cut
set_option linter.unusedVariables false
set_option linter.unusedSimpArgs false
set_option maxRecDepth 100000
set_option maxHeartbeats 16000000
namespace Go.Proofs.Ytabbabkmojaoaaa.VT
open Go.RowKit
theorem kBn (w:World)(g:Nat)(T:kAy El)(hk:kA5 T)(h0:0<T.low.length)(h:kAj val8 243 128 w g T):
  Calls Try.prog 136 #[.pointer (some ⟨g,0,none⟩)] w fun e w'=>e= .returned (.bool true)∧w=w':=by
 obtain⟨am,cm,al,cl,h1,h2,h3⟩:=h;have c2:=kAj.cell_low (val:=val8) hk h1
 have h0i:(0:Int)<(T.low.length:Int):=by omega
 have d0:decide ((0:Int)<(T.low.length:Int))=true:=decide_eq_true h0i
 have H1:=jH h1;clear h1
 have H2:=jH h2;clear h2
 have H3:=jH h3;clear h3
 clear hk;generalize T.low.length=n at*
 go_enter Try.func136,Try.ntmps136
 go_wp2
 go_ret
 exact⟨rfl,rfl⟩
theorem kDm (w:World)(g:Nat)(T:kAy El)(hk:kA5 T)(h0:0<T.low.length)(h:kAj val8 243 128 w g T):
  Calls Try.prog 135 #[.pointer (some ⟨g,0,none⟩)] w fun e w'=>e= .returned (.tuple #[.int .i64 (T.mid.length:Nat),.int .i64 (T.low.length:Nat)])∧∃n,w'=w.drewN n:=by
 have HT:=jH (kBn w g T hk h0 h);obtain⟨am,cm,al,cl,h1,h2,h3⟩:=h;have c2:=kAj.cell_low (val:=val8) hk h1;have c1:=kAj.cell_mid (val:=val8) hk h1
 have H1:=jH h1;clear h1
 have H2:=jH h2;clear h2
 have H3:=jH h3;clear h3
 clear hk;generalize T.low.length=n at*;generalize T.mid.length=m at*
 go_enter Try.func135,Try.ntmps135
 go_wp2_with fail
 refine HT.out.mono ?_;rintro e w1 ⟨rfl,rfl⟩;clear HT;go_wp2
 go_quiet (fail)
 go_wp2
 go_ret2
 exact⟨rfl,_,rfl⟩
structure kNd (w:World) (g:Nat) (T:kAy El) (r:Nat) (am:Option Addr) (cm:Nat) (al:Option Addr) (cl i j:Nat) (v:El):Prop where
 mid:w.cell? ⟨g,272,none⟩=some (.slice am T.mid.length cm)
 low:w.cell? ⟨g,273,none⟩=some (.slice al T.low.length cl)
 top:w.cell? ⟨g,r / 64 / 64,none⟩=some (.int .u16 (i:Nat))
 il:i<T.mid.length
 jl:j<T.low.length
 m:∃b o,am=some ⟨b,o,none⟩∧w.cell? ⟨b,o+i*64+r / 64 % 64,none⟩=some (.int .u16 (j:Nat))
 l:∃b o,al=some ⟨b,o,none⟩∧w.cell? ⟨b,o+j*128+r % 64*2,none⟩=some (.int .i32 v.1)∧w.cell? ⟨b,o+j*128+r % 64*2+1,none⟩=some (.string v.2)
theorem kMk {w:World}{al:Option Addr}{L:List (List El)}(h:kAg val8 128 w al L)(j:Nat)(hj:j<L.length)(i:Nat)(hi:i<L[j].length):∃b o,al=some ⟨b,o,none⟩∧w.cell? ⟨b,o+j*128+i*2,none⟩=some (.int .i32 (L[j][i]).1)∧w.cell? ⟨b,o+j*128+i*2+1,none⟩=some (.string (L[j][i]).2):=by
 obtain⟨b,o,e,hr⟩:=h j hj;obtain⟨h1,h2⟩:=kFf L[j] i hi;exact⟨b,o,e,hr _ _ h1,by have:=hr _ _ h2;rwa[←Nat.add_assoc]at this⟩
theorem kMx {w:World}{g:Nat}{T:kAy El}(hk:kA5 T)(h:kAj val8 243 128 w g T)(d:El)(r:Nat)(hr:r≤1114111):
  ∃am cm al cl i j,kNd w g T r am cm al cl i j (kAl d T r):=by
 obtain⟨am,cm,al,cl,h1,h2,h3⟩:=h;have ht:=kAj.cell_top (val:=val8) hk h1 (r / 64 / 64) (by omega)
 have htl:r / 64 / 64<T.top.length:=by rw[hk.top];omega
 obtain⟨i,hi⟩:∃i,i=T.top.getD (r / 64 / 64) 0:=⟨_,rfl⟩
 have hil:i<T.mid.length:=by
  rw[hi,kAn (d:=0) htl];exact hk.topN _ (List.getElem_mem htl)
 have hml:(T.mid[i]).length=64:=hk.mid _ (List.getElem_mem hil)
 obtain⟨j,hj⟩:∃j,j=(T.mid[i]).getD (r / 64 % 64) 0:=⟨_,rfl⟩
 have hmj:r / 64 % 64<(T.mid[i]).length:=by rw[hml];omega
 have hjl:j<T.low.length:=by
  rw[hj,kAn (d:=0) hmj];exact hk.midN _ (List.getElem_mem hil) _ (List.getElem_mem hmj)
 have hll:(T.low[j]).length=64:=hk.low _ (List.getElem_mem hjl)
 have hlj:r % 64<(T.low[j]).length:=by rw[hll];omega
 have hlook:kAl d T r=(T.low[j])[r % 64]:=by
  unfold kAl;rw[show r / 4096=r / 64 / 64 by omega,←hi,kAn (d:=[]) hil,←hj,kAn (d:=[]) hjl,kAn (d:=d) hlj]
 obtain⟨bm,om,ham⟩:=h2.some (by omega);subst ham
 refine⟨_,cm,al,cl,i,j,kAj.cell_mid (val:=val8) hk h1,kAj.cell_low (val:=val8) hk h1,by rw[ht,←hi];rfl,hil,hjl,⟨bm,om,rfl,?_⟩,?_⟩
 ·have:=h2.cell kA0 i hil (r / 64 % 64) hmj;rw[this,hj,kAn (d:=0) hmj]
  rfl
 ·rw[hlook];exact kMk h3 j hjl (r % 64) hlj
theorem kDh (w:World)(g:Nat)(T:kAy El)(hk:kA5 T)(h0:0<T.low.length)(h:kAj val8 243 128 w g T)(r:Int)(hr1: -2147483648≤r)(hr2:r≤2147483647):
  Calls Try.prog 133 #[.pointer (some ⟨g,0,none⟩),.int .i32 r] w fun e w'=>e= .returned (val8 (kAl (((0:Int),ByteArray.empty):El) T (kDe r)))∧Below w.heap.size w w':=by
 have HB:=jH ((Below.refl w.heap.size w).alloc jR (.cells #[.int .i32 0,.string {data:= #[]}] 105));have HA:=jH (jN w (.cells #[.int .i32 0,.string {data:= #[]}] 105));have h':=h.below HB.out jR
 obtain⟨w1,hw1⟩:∃w1,w1=w.alloc (.cells #[.int .i32 0,.string {data:= #[]}] 105):=⟨_,rfl⟩
 rw[←hw1]at HB HA h';have HW1:=jH hw1
 obtain⟨bv,hbv⟩:∃bv,bv=w.heap.size:=⟨_,rfl⟩
 rw[←hbv]at HA;have HBv:=jH hbv;have hwb:w.heap.size≤bv:=Nat.le_of_eq hbv.symm;clear hw1 hbv;have HT:=jH (kBn w1 g T hk h0 h')
 obtain⟨q,hq⟩:∃q:Nat,q=kDe r:=⟨_,rfl⟩
 have hql:q≤1114111:=by rw[hq];exact kFk r
 obtain⟨am,cm,al,cl,i,j,c1,c2,c3,hi,hj,⟨bm,om,rfl,c4⟩,⟨bl,ol,rfl,c5,c6⟩⟩:=kMx hk h (((0:Int),ByteArray.empty):El) q hql;have hml:=hk.midL;have hll:=hk.lowL;rw[←hq];generalize kAl (((0:Int),ByteArray.empty):El) T q=v at*;clear h h' hk h0;generalize T.mid.length=nm at*;generalize T.low.length=nl at*
 have g1:(0:Int)≤(i:Int):=by omega
 have g2:(i:Int)<(nm:Int):=by omega
 have g3:(0:Int)≤(j:Int):=by omega
 have g4:(j:Int)<(nl:Int):=by omega
 have k1:(0:Int)≤(q:Int) / 64:=by omega
 have k2:(0:Int)≤(q:Int) / 64 / 64:=by omega
 have k3:(q:Int) / 64 / 64<272:=by omega
 have k4:(0:Int)≤(q:Int) / 64 % 64:=by omega
 have k5:(q:Int) / 64 % 64<64:=by omega
 have k6:(0:Int)≤(q:Int) % 64:=by omega
 have k7:(q:Int) % 64<64:=by omega
 have z0:=jK w1 bv 0 _ _ (0,0) HA.out;have z1:=jK w1 bv 1 _ _ (0,0) HA.out;have f0:=jO w1 bv 0 _ _ HA.out;have f1:=jO w1 bv 1 _ _ HA.out;simp at z0 z1
 obtain⟨w9,hw9⟩:∃w9,w9=(w1.drew.setCell ⟨bv,0,none⟩ (.int .i32 v.1)).setCell ⟨bv,1,none⟩ (.string v.2):=⟨_,rfl⟩
 have HSt:Hid (w9.cell? ⟨bv,0,none⟩=some (.int .i32 v.1)∧w9.cell? ⟨bv,1,none⟩=some (.string v.2)∧Below w.heap.size w w9):=jH (by
  have g1:=jP w1.drew bv 0 _ _ (.int .i32 v.1) HA.out;have g2:=jP _ bv 1 _ _ (.string v.2) g1;rw[hw9]
  exact⟨jK _ bv 0 _ _ (0,0) g2,jK _ bv 1 _ _ (0,0) g2,(HB.out.drew.setCell (p:=⟨bv,0,none⟩) hwb _).setCell (p:=⟨bv,1,none⟩) hwb _⟩)
 have kc:∀ {p:Addr} {u:Value},w.cell? p=some u→w1.cell? p=some u:=fun {p u} h=>(HB.out.cell (World.block_lt_of_cell? w _ h)).trans h
 have kd:∀ {p:Addr} {u:Value},w.cell? p=some u→w9.cell? p=some u:=fun {p u} h=>(HSt.out.2.2.cell (World.block_lt_of_cell? w _ h)).trans h
 have HK9:=jH (And.intro (kd c1) (And.intro (kd c2) (And.intro (kd c3) (And.intro (kd c4) (And.intro (kd c5) (kd c6))))));replace c1:=kc c1;replace c2:=kc c2;replace c3:=kc c3;replace c4:=kc c4;replace c5:=kc c5;replace c6:=kc c6;clear kc kd;have HW9b:Hid (w9=((w1.setCell ⟨bv,0,none⟩ (.int .i32 v.1)).setCell ⟨bv,1,none⟩ (.string v.2)).drew):=jH (hw9.trans rfl)
 have HW9:=jH hw9;clear hw9
 by_cases h1:0≤r∧r≤1114111
 ·obtain⟨h1,h2⟩:=h1
  obtain rfl:r=(q:Int):=by rw[hq];unfold kDe;rw[if_neg (by omega)];omega
  clear hq
  have n1:¬(q:Int)<0:=by omega
  have n2:¬(1114111:Int)<(q:Int):=by omega
  go_enter Try.func133,Try.ntmps133
  go_upto_region 1 with(fail)
  rw[←HW1.out,←HBv.out]
  go_wp2_with fail
  refine HT.out.mono ?_;rintro e w2 ⟨rfl,rfl⟩;clear HT;go_wp2
  obtain⟨p,hp⟩:∃p:Nat,p=q / 64:=⟨_,rfl⟩
  obtain⟨t,ht⟩:∃t:Nat,t=q / 64 / 64:=⟨_,rfl⟩
  obtain⟨u,hu⟩:∃u:Nat,u=q / 64 % 64:=⟨_,rfl⟩
  obtain⟨x,hx⟩:∃x:Nat,x=q % 64:=⟨_,rfl⟩
  rw[←ht]at c3;rw[←hu]at c4;rw[←hx]at c5 c6
  have b1:(0:Int)≤(t:Int):=by omega
  have b2:(t:Int)<272:=by omega
  have b3:(0:Int)≤(u:Int):=by omega
  have b4:(u:Int)<64:=by omega
  have b5:(0:Int)≤(x:Int):=by omega
  have b6:(x:Int)<64:=by omega
  have b7:(0:Int)≤(p:Int):=by omega
  have e1:(q:Int) / 64=(p:Int):=by omega
  have e2:(p:Int).tdiv 64=(t:Int):=by rw[Int.tdiv_eq_ediv_of_nonneg b7];omega
  have e4:(p:Int).tmod 64=(u:Int):=by rw[Int.tmod_eq_emod_of_nonneg b7];omega
  have e5:(q:Int).tmod 64=(x:Int):=by rw[Int.tmod_eq_emod_of_nonneg (by omega)];omega
  have e6:IntKind.i32.wrap (p:Int)=(p:Int):=by simp[IntKind.wrap,IntKind.bits,IntKind.signed];omega
  have e7:IntKind.i32.wrap (t:Int)=(t:Int):=by simp[IntKind.wrap,IntKind.bits,IntKind.signed];omega
  have e8:(p:Int) / 64=(t:Int):=by omega
  have e9:(p:Int) % 64=(u:Int):=by omega
  have e10:(q:Int) % 64=(x:Int):=by omega
  clear hp ht hu hx k1 k2 k3 k4 k5 k6 k7;refine wp_region_still_tail 27 (by kernel_rfl) (by kernel_rfl) ?_;simp only[List.take_succ_cons,List.take_zero,List.drop_succ_cons,List.drop_zero]
  change wpStill _ _ (World.drew _) (fun a'=>wpList _ _ _ _ a' (World.drew _)) _ _
  repeat still_step
  refine wpStill_nil ?_;go_wp2
  first | rw[←HW9.out] | rw[←HW9b.out]
  obtain⟨y0,y1,y2⟩:=HSt.out;refine jS (v:=val8 v) (by simp[results,Try.results133,go_sem,y0,y1,val8]) rfl ?_;exact⟨rfl,y2⟩
 ·have hq':q=65533:=by rw[hq];unfold kDe;rw[if_pos (by omega)]
  clear hq;have HQ:=jH hq'
  by_cases h2:r<0
  ·have n1:decide (r<0)=true:=decide_eq_true h2;subst hq'
   go_enter Try.func133,Try.ntmps133
   go_upto_region 1 with(fail)
   rw[←HW1.out,←HBv.out]
   go_wp2_with fail
   refine HT.out.mono ?_;rintro e w2 ⟨rfl,rfl⟩;clear HT;go_wp2
   have e1:IntKind.i32.wrap 1023=1023:=by rfl
   have e2:(1023:Int).tdiv 64=15:=by rfl
   have e3:IntKind.i32.wrap 15=15:=by rfl
   have e4:(1023:Int).tmod 64=63:=by rfl
   have e5:(65533:Int).tmod 64=61:=by rfl
   have e6:(65533:Int).tdiv 64=1023:=by rfl
   have b1:(15:Int)<272:=by omega
   have b2:(63:Int)<64:=by omega
   have b3:(61:Int)<64:=by omega
   simp only[Nat.reduceDiv,Nat.reduceMod,Nat.reduceMul]at c3 c4 c5 c6;refine wp_region_still_tail 27 (by kernel_rfl) (by kernel_rfl) ?_;simp only[List.take_succ_cons,List.take_zero,List.drop_succ_cons,List.drop_zero]
   change wpStill _ _ (World.drew _) (fun a'=>wpList _ _ _ _ a' (World.drew _)) _ _
   repeat still_step
   refine wpStill_nil ?_;go_wp2
   first | rw[←HW9.out] | rw[←HW9b.out]
   obtain⟨y0,y1,y2⟩:=HSt.out;refine jS (v:=val8 v) (by simp[results,Try.results133,go_sem,y0,y1,val8]) rfl ?_;exact⟨rfl,y2⟩
  ·have n1:¬r<0:=h2
   have n2:(1114111:Int)<r:=by omega
   have d1:decide (r<0)=false:=decide_eq_false h2;have d2:decide ((1114111:Int)<r)=true:=decide_eq_true n2;subst hq'
   go_enter Try.func133,Try.ntmps133
   go_upto_region 1 with(fail)
   rw[←HW1.out,←HBv.out]
   go_wp2_with fail
   refine HT.out.mono ?_;rintro e w2 ⟨rfl,rfl⟩;clear HT;go_wp2
   have e1:IntKind.i32.wrap 1023=1023:=by rfl
   have e2:(1023:Int).tdiv 64=15:=by rfl
   have e3:IntKind.i32.wrap 15=15:=by rfl
   have e4:(1023:Int).tmod 64=63:=by rfl
   have e5:(65533:Int).tmod 64=61:=by rfl
   have e6:(65533:Int).tdiv 64=1023:=by rfl
   have b1:(15:Int)<272:=by omega
   have b2:(63:Int)<64:=by omega
   have b3:(61:Int)<64:=by omega
   simp only[Nat.reduceDiv,Nat.reduceMod,Nat.reduceMul]at c3 c4 c5 c6;refine wp_region_still_tail 27 (by kernel_rfl) (by kernel_rfl) ?_;simp only[List.take_succ_cons,List.take_zero,List.drop_succ_cons,List.drop_zero]
   change wpStill _ _ (World.drew _) (fun a'=>wpList _ _ _ _ a' (World.drew _)) _ _
   repeat still_step
   refine wpStill_nil ?_;go_wp2
   first | rw[←HW9.out] | rw[←HW9b.out]
   obtain⟨y0,y1,y2⟩:=HSt.out;refine jS (v:=val8 v) (by simp[results,Try.results133,go_sem,y0,y1,val8]) rfl ?_;exact⟨rfl,y2⟩
end Go.Proofs.Ytabbabkmojaoaaa.VT

namespace Go.Proofs.Ytabbabkmojaoaaa.VT
open Go.RowKit
theorem Try.elemT:kEs Try.prog 204 105 (.agg #[.int .i32 0,.string {data:= #[]}]) 2 24:=⟨Try.underlying204,by kernel_rfl,by kernel_rfl,by decide⟩
def kIb (B:Nat) (E:TypeId) (w:World) (a:Option Addr) (n c:Nat) (xs:List Value):Prop:=w.ownsRow B E 2 (.slice a n c) n xs
theorem kIb.below {B B':Nat}{E:TypeId}{w w':World}{a:Option Addr}{n cap:Nat}{xs:List Value}(h:kIb B E w a n cap xs)(hb:Below B' w w')(hB:w.heap.size≤B'):kIb B E w' a n cap xs:=
 World.ownsRow.kept (row:=none) h ⟨hb.os,hb.tape,hb.output,hb.size,fun j hj _=>hb.block j (by omega)⟩ (by cases hv:(Value.slice a n cap).ownBlock<;>simp)
theorem kIb.nil (B:Nat)(E:TypeId)(w:World):kIb B E w none 0 0 []:=World.ownsRow_nil w B E 2
theorem kIb.keep {B B':Nat}{E:TypeId}{w w':World}{a:Option Addr}{n c:Nat}{xs:List Value}(h:kIb B E w a n c xs)(hB:B'≤B)(hk:∀k,(Value.slice a n c).ownBlock=some k→w'.heap[k]? =w.heap[k]?):kIb B' E w' a n c xs:=by
 refine⟨h.1,?_⟩
 rcases h.2 with hn | ⟨g,cap,cur,e,hb,hg,rest⟩
 ·exact .inl hn
 ·exact .inr ⟨g,cap,cur,e,by omega,by rw[hk g (by rw[e];rfl)];exact hg,rest⟩
def kId (L:List (List El)):List Value:=L.flatMap (kAf val8)
theorem kLh (L:List (List El))(l:List El):kId (L++[l])=kId L++kAf val8 l:=by simp[kId]
theorem kHy (L:List (List El)):kId L=kAf val8 L.flatten:=by
 induction L with
 | nil=>rfl
 | cons a l ih=>
  show kAf val8 a++kId l=_;rw[ih];simp[kAf]
theorem kLt {F:Fence}{nF:Nat}{P:Program}{md:Region.Mode}{ops:Array Oper}{Q:Exit→Act→World→Prop}{C:World→Prop}{M:List Nat}{i:Nat}{o:Oper}{f:Nat}{l:Array Bool}{act:Act}{t e:TypeId}{z:Value}{bytes:Nat}(el:kEs P t e z 2 bytes){w:World}(hr:Region.ready md ops l=[i])(hi:ops[i]? =some o)(hc:kDb o=true)
  (hwt:Region.wanted o (yielded ops act.tmps)=true)(s x:Operand)
  (ho:o.op= .call {callee:= .builtin .append,args:= #[s,x],argTypes:= #[t,t]}){B:Nat}{a:Option Addr}{n cap:Nat}{xs:List Value}(hown:kIb B e w a n cap xs)(hB:B≤w.heap.size)
  {b m c:Nat}{ys:List Value}(hys:ys.length=m*2)(hsrc:w.rangeAt b 0 ys)(hone:∀u∈ys,u.oneCell'=true)(hm0:0<m)(hn:(n+m)*bytes≤140737488355328)(hm:n+m≤maxLen)
  (hs:act.eval s= .slice a n cap)(hx:act.eval x= .slice (some ⟨b,0,none⟩) m c)
  (hC:∀w',w.grownBy w' (Value.slice a n cap).ownBlock→C w')
  (h:∀a' cap' w',kIb B e w' a' (n+m) cap' (xs++ys)→w.grownBy w' (Value.slice a n cap).ownBlock→kBk w (.slice a n cap) (.slice a' (n+m) cap')→kGx F nF P md ops Q M C f (l.setIfInBounds i true) (act.put o.dst (.slice a' (n+m) cap')) w'):
  kGx F nF P md ops Q M C (f+1) l act w:=by
 obtain⟨i',hi',hz,h1,hb⟩:=info_parts el.inf
 have hcell:∀j v,ys[j]? =some v→w.cell? ((⟨b,0,none⟩:Addr).add j)=some v:=by
  intro j v hv;rw[Addr.add_lit];exact hsrc j v hv
 obtain⟨v',w',hr',h2,h3,h4⟩:=kGp (P:=P) w B t o.type e i' z 2 bytes el.und hi' hz h1 hb el.sz el.pos _ n xs hown ⟨b,0,none⟩ m c ys hys hcell hone hm hn hB
 have hv':∃a' cap',v'= .slice a' (n+m) cap':=by
  rcases h2.2 with⟨rfl,h0⟩ | ⟨g,cap',cur,rfl,_⟩
  ·omega
  ·exact⟨_,_,rfl⟩
 obtain⟨a',cap',rfl⟩:=hv';refine kC9 hr hi hc hwt (v:= .slice a' (n+m) cap') (w':=w') ?_ (hC w' h3) (h a' cap' w' h2 h3 h4);unfold execOp;simp only[ho,resolve,invoke,builtin,Sem.run_bind,Sem.run_pure,Result.andThen_ok,List.map_toArray,List.map_cons,List.map_nil,hs,hx,hr']
def PaM (W0:World) (bp n:Nat) (at_:Option Addr) (ct:Nat) (L:List (List Nat)) (i:Value) (wr:World):Prop:=
 ∃(k:Nat) (a:Option Addr) (c:Nat),k≤n∧i= .int .i64 k∧wr.heap[bp]? =some (.cells #[.slice at_ 272 ct,.slice a (64*k) c,.slice none 0 0] 206 (0,0))∧
  Own W0.heap.size 91 wr a (64*k) c (kB7 kAb (L.take k))∧But W0.heap.size (fun b=>b=bp) W0 wr
def PaL (W0:World) (bp n:Nat) (at_:Option Addr) (ct:Nat) (am:Option Addr) (nm cm:Nat) (L:List (List El)) (i:Value) (wr:World):Prop:=
 ∃(k:Nat) (a:Option Addr) (c:Nat),k≤n∧i= .int .i64 k∧wr.heap[bp]? =some (.cells #[.slice at_ 272 ct,.slice am nm cm,.slice a (64*k) c] 206 (0,0))∧
  kIb W0.heap.size 105 wr a (64*k) c (kId (L.take k))∧But W0.heap.size (fun b=>b=bp) W0 wr
theorem kCr (w:World)(g:Nat)(T:kAy El)(hk:kA5 T)(h0:0<T.low.length)(h:kAj val8 243 128 w g T):
  Calls Try.prog 111 #[.pointer (some ⟨g,0,none⟩)] w fun e w'=>∃at_ ct am cm al cl,e= .returned (.agg #[.slice at_ 272 ct,.slice am (64*T.mid.length) cm,.slice al (64*T.low.length) cl])∧
   Own w.heap.size 91 w' at_ 272 ct (T.top.map kAb)∧Own w.heap.size 91 w' am (64*T.mid.length) cm (kB7 kAb T.mid)∧kIb w.heap.size 105 w' al (64*T.low.length) cl (kId T.low)∧Below w.heap.size w w'∧Dis3 at_ am al:=by
 obtain⟨bz,hbz⟩:∃bz,bz=w.heap.size:=⟨_,rfl⟩
 have hgl:g<w.heap.size:=by obtain⟨am,cm,al,cl,h1, -⟩:=h;exact(jL h1)
 have HK:=jH hk;clear hk
 have H:=jH h;clear h
 refine kB8 Try.func111 rfl ?_;simp only[Try.ntmps111,List.size_toArray,List.length_cons,List.length_nil,Nat.reduceAdd,Nat.reduceSub,Array.replicate_succ,Array.replicate_zero,List.push_toArray,List.append_toArray,List.nil_append,List.cons_append]
 have HW1:Hid (Below w.heap.size w ((w.alloc (.cells #[.slice none 0 0,.slice none 0 0,.slice none 0 0] 206)).alloc (.cells #[.slice none 0 0,.slice none 0 0,.slice none 0 0] 206))∧
   ((w.alloc (.cells #[.slice none 0 0,.slice none 0 0,.slice none 0 0] 206)).alloc (.cells #[.slice none 0 0,.slice none 0 0,.slice none 0 0] 206)).heap[bz]? =some (.cells #[.slice none 0 0,.slice none 0 0,.slice none 0 0] 206 (0,0))∧
   ((w.alloc (.cells #[.slice none 0 0,.slice none 0 0,.slice none 0 0] 206)).alloc (.cells #[.slice none 0 0,.slice none 0 0,.slice none 0 0] 206)).heap[bz+1]? =some (.cells #[.slice none 0 0,.slice none 0 0,.slice none 0 0] 206 (0,0))∧
   ((w.alloc (.cells #[.slice none 0 0,.slice none 0 0,.slice none 0 0] 206)).alloc (.cells #[.slice none 0 0,.slice none 0 0,.slice none 0 0] 206)).heap.size=bz+1+1):=jH (by
  rw[hbz]
  refine⟨((Below.refl _ w).alloc jR _).alloc (by simp) _,?_,?_,by simp⟩
  ·rw[Below.heap_alloc _ _ _ (by simp)];exact jN w _
  ·have:=jN (w.alloc (.cells #[.slice none 0 0,.slice none 0 0,.slice none 0 0] 206)) (.cells #[.slice none 0 0,.slice none 0 0,.slice none 0 0] 206)
   simpa using this)
 go_upto_region 2 with(fail)
 rw[←hbz];generalize ((w.alloc (.cells #[.slice none 0 0,.slice none 0 0,.slice none 0 0] 206)).alloc (.cells #[.slice none 0 0,.slice none 0 0,.slice none 0 0] 206))=w1 at*;have HBz:=jH hbz;have H1:=jH (H.out.below HW1.out.1 jR)
 have hgz:g<bz:=by rw[hbz];exact hgl
 clear hbz
 go_wp2_with fail
 refine(kBn w1 g T HK.out h0 H1.out).mono ?_;rintro e w2 ⟨rfl,rfl⟩;obtain⟨am0,cm0,al0,cl0,hg1,hg2,hg3⟩:=H1.out
 have HG1:=jH hg1;clear hg1
 have HG2:=jH hg2;clear hg2
 have HG3:=jH hg3;clear hg3
 have HVt:Hid (kEz w1 (some ⟨g,0,none⟩) (T.top.map kAb)):=jH (fun j hj=>by
  refine⟨g,0,rfl,?_⟩
  have hj2:j<272:=by rw[List.length_map,HK.out.top]at hj;exact hj
  rw[Nat.zero_add,kAj.cell_top (val:=val8) HK.out HG1.out j hj2,List.getElem_map]
  rw[kAn (d:=0) (by rw[HK.out.top];exact hj2)])
 go_wp2_with fail
 refine(kGc ⟨g,0,none⟩ 272 272 (T.top.map kAb) w1 (by rw[List.length_map,HK.out.top]) (by omega) HVt.out (kD1 _)).mono ?_;rintro e w3 ⟨at_,ct,rfl,ho,hb⟩;have HOt:=jH ho;have HB3:=jH hb;have HZ3:=jH ((hb.block bz (by rw[HW1.out.2.2.2];omega)).trans HW1.out.2.1);have HP3:=jH ((hb.block (bz+1) (by rw[HW1.out.2.2.2];omega)).trans HW1.out.2.2.1);clear ho hb HVt;have p0:=jK w3 (bz+1) 0 _ _ (0,0) HP3.out;have f0:=jO w3 (bz+1) 0 _ _ HP3.out;simp at p0
 obtain⟨bp,hbp⟩:∃bp,bp=bz+1:=⟨_,rfl⟩
 have HBp:=jH hbp;clear hbp
 go_upto_region 5 with(fail)
 have hbp:=HBp.out;rw[←hbp]at HP3 p0 f0 ⊢
 obtain⟨w4,hw4⟩:∃w4,w4=w3.setCell ⟨bp,0,none⟩ (.slice at_ 272 ct):=⟨_,rfl⟩
 have HP4:Hid (w4.heap[bp]? =some (.cells #[.slice at_ 272 ct,.slice none 0 0,.slice none 0 0] 206 (0,0))):=jH (by
  have:=jP w3 bp 0 _ _ (.slice at_ 272 ct) HP3.out;rw[hw4]
  simpa using this)
 have HZ4:Hid (w4.heap[bz]? =some (.cells #[.slice none 0 0,.slice none 0 0,.slice none 0 0] 206 (0,0))):=jH (by
  rw[hw4,jQ w3 ⟨bp,0,none⟩ bz _ (by simp;omega)]
  exact HZ3.out)
 have HB4:Hid (Below bz w w4):=jH (by
  rw[hw4,HBz.out]
  exact(kBq HW1.out.1 HB3.out).setCell (p:=⟨bp,0,none⟩) (by show w.heap.size≤bp;rw[hbp,HBz.out];omega) _)
 have hs4:bp<w4.heap.size:=(jL HP4.out)
 have HOt4:Hid (Own w1.heap.size 91 w4 at_ 272 ct (T.top.map kAb)):=jH (by
  rw[hw4];refine HOt.out.kept (kAe w3 bp 0 _) ?_
  cases e:(Value.slice at_ 272 ct).ownBlock with
  | none=>exact .inl rfl
  | some k=>exact .inr (fun e2=>by cases e2;have:=(World.ownsRow.lt HOt.out _ e).1;have:=HW1.out.2.2.2;omega))
 have hs14:w1.heap.size≤w4.heap.size:=by rw[hw4];simpa using HB3.out.size
 rw[←hw4];clear hw4 HP3 p0 f0 HOt HZ3 HB3
 have hbp2:bz<bp:=by omega
 clear hbp;obtain⟨am1,cm1,al1,cl1,hh1,hh2,hh3⟩:=H.out;have HT4:=jH (H.out.below HB4.out (by rw[HBz.out];exact Nat.le_refl _));have HM0:=jH hh2;have HL0:=jH hh3;have g4:w4.heap[g]? =some (.cells (kD7 T am1 cm1 al1 cl1).toArray 243 (0,0)):=(HB4.out.block g hgz).trans hh1
 have HG4:=jH g4;clear g4 hh1 hh2 hh3
 have c1:=kAj.cell_mid (val:=val8) HK.out HG4.out
 obtain⟨nm,hnm⟩:∃nm,nm=T.mid.length:=⟨_,rfl⟩
 have hnm2:nm≤272:=by rw[hnm];exact HK.out.midL
 rw[←hnm]at c1
 have HNm:=jH hnm;clear hnm
 go_wp2
 go_loopw [23] (PaM w4 bp nm at_ ct T.mid) (fun i _=>nm - (intOf i).toNat)
 case atStart=>exact⟨0,none,0,Nat.zero_le _,rfl,HP4.out,Own.nil _ _ _,But.refl _ _ _⟩
 case round=>
  obtain⟨k,a,c,hk,rfl,hcell,hown,hbut⟩:=hrel
  have HCe:=jH hcell;clear hcell
  have HOw:=jH hown;clear hown
  have HBt:=jH hbut;clear hbut
  by_cases hkn:k<nm
  ·have hki:(k:Int)<(nm:Int):=by omega
   have hkl:k<T.mid.length:=by rw[←HNm.out];exact hkn
   obtain⟨b,o,ha⟩:=HM0.out.some (by omega);subst ha;have hr:=HM0.out.get k hkl
   have hbl:b<bz:=by
    have hml:=HK.out.mid _ (List.getElem_mem hkl);have h2:=hr 0 (kAb (T.mid[k][0]'(by omega))) (kCe kA0 _ 0 (by omega));rw[HBz.out];exact World.block_lt_of_cell? w _ h2
   have HR:Hid (wr.rangeAt b (o+k*64) (kAf kAb T.mid[k])):=jH (fun j v hv=>HBt.out.cell ((HB4.out.cell (p:=⟨b,o+k*64+j,none⟩) hbl).trans (hr j v hv)) (by omega) (by show ¬b=bp;omega))
   have hbs:(kAf kAb T.mid[k]).length=64:=by rw[kAh (sz:=1) (fun _=>rfl),HK.out.mid _ (List.getElem_mem hkl)]
   clear hr
   go_upto_region 7 with(fail)
   refine wp_region_list ?_;refine kAc (v:= .pointer (some ⟨b,o+k*64,none⟩)) (w':=wr) rfl (by go_simp) ?_;refine wpList_load_mid rfl 120 (.tmp 25) rfl b (o+k*64) rfl (kAf kAb T.mid[k]) (.array 64 91) HR.out Try.underlying120 rfl (by rw[hbs];kernel_rfl) ?_;refine kAc (v:= .pointer (some ⟨wr.heap.size,0,none⟩)) (w':=wr.alloc (.cells (kAf kAb (List.replicate 64 0)).toArray 120)) rfl (by kernel_rfl) ?_
   obtain⟨b8,hb8⟩:∃b8,b8=wr.heap.size:=⟨_,rfl⟩
   have hA7:=jN wr (.cells (kAf kAb (List.replicate 64 0)).toArray 120);have hB7:Below wr.heap.size wr (wr.alloc (.cells (kAf kAb (List.replicate 64 0)).toArray 120)):=(Below.refl _ _).alloc jR _;rw[←hb8]at hA7 hB7 ⊢;generalize hw7:wr.alloc (.cells (kAf kAb (List.replicate 64 0)).toArray 120)=w7 at*
   have hT7:w7.there b8 0 (kAf kAb T.mid[k]).toArray.size:=fun j hj=>by
    rw[Nat.zero_add,jK w7 b8 j _ _ (0,0) hA7];refine⟨?_,jO w7 b8 j _ _ hA7⟩;rw[List.getElem?_toArray,kA4,List.getElem?_map,List.getElem?_replicate,if_pos (by simpa [hbs]using hj)]
    rfl
   refine wpList_store_mid rfl 120 (.tmp 5) (.tmp 26) rfl b8 0 (kAf kAb T.mid[k]).toArray rfl rfl hT7 (by rw[List.size_toArray,hbs];kernel_rfl) (by rw[kA4];exact all_oneCell_toArray (kD1 _)) ?_;have HR8:Hid ((w7.setCells b8 0 (kAf kAb T.mid[k]).toArray.toList).rangeAt b8 0 (kAf kAb T.mid[k])):=jH (World.rangeAt_setCells_same w7 b8 0 _ (by simpa using hT7))
   have HB8:Hid (Below wr.heap.size wr (w7.setCells b8 0 (kAf kAb T.mid[k]).toArray.toList)):=jH (by
    rw[←hb8]
    exact hB7.trans (kBa (kC3 b8 _ 0 w7) (fun k e=>by cases e;exact Nat.le_refl _) (by rw[hb8];exact hB7.size)))
   generalize (w7.setCells b8 0 (kAf kAb T.mid[k]).toArray.toList)=w8 at*;clear hT7 hA7 hB7 hw7
   have HB8e:=jH hb8;clear hb8
   have HV8:Hid (kEz w8 (some ⟨b8,0,none⟩) (T.mid[k].map kAb)):=jH (fun j hj=>⟨b8,0,rfl,HR8.out j _ (by rw[kA4];exact List.getElem?_eq_getElem hj)⟩)
   have hlen8:(T.mid[k].map kAb).length=64:=by rw[List.length_map];exact HK.out.mid _ (List.getElem_mem hkl)
   have hbpr:bp<wr.heap.size:=(jL HCe.out)
   have HC8:=jH ((HB8.out.block bp hbpr).trans HCe.out);have HO8:Hid (Own w4.heap.size 91 w8 a (64*k) c (kB7 kAb (T.mid.take k))):=jH (HOw.out.below HB8.out jR);have d0:=jK w8 bp 1 _ _ (0,0) HC8.out;have e0:=jO w8 bp 1 _ _ HC8.out;simp at d0
   have hok:∀q,(Value.slice a (64*k) c).ownBlock=some q→w4.heap.size≤q:=fun q e=>(World.ownsRow.lt HO8.out q e).1
   have hbase:w4.heap.size≤w8.heap.size:=Nat.le_trans HBt.out.size HB8.out.size;have HKB:=jH (fun(w':World) (hg:w8.drew.grownBy w' (Value.slice a (64*k) c).ownBlock)=>show w'.cell? ⟨bp,1,none⟩=some (.slice a (64*k) c)∧w'.frozen? ⟨bp,1,none⟩=false from⟨kAv hg d0 (fun q e=>by have:=hok q e;omega),jO w' bp 1 _ _ ((kAr hg (jL HC8.out) (fun q e=>by have:=hok q e;omega)).trans HC8.out)⟩);go_wp2
   have d1:w8.drew.cell? ⟨bp,1,none⟩=some (.slice a (64*k) c):=d0;have e1:w8.drew.frozen? ⟨bp,1,none⟩=false:=e0
   have hbn1:(64*k+64)*2≤140737488355328:=by omega
   have hbn2:64*k+64≤maxLen:=by unfold maxLen;omega
   refine wp_region_noPanic ?_;refine(wpIn_wide (n:=2)).1 ?_;refine kAi [4,5] (fun w':World=>w'.cell? ⟨bp,1,none⟩=some (.slice a (64*k) c)∧w'.frozen? ⟨bp,1,none⟩=false) (by kernel_rfl) ?_;have HCx:Hid ((fun w':World=>w'.cell? ⟨bp,1,none⟩=some (.slice a (64*k) c)∧w'.frozen? ⟨bp,1,none⟩=false) w8.drew):=jH ⟨d1,e1⟩;have HO9:Hid (Own w4.heap.size 91 w8.drew a (64*k) c (kB7 kAb (T.mid.take k))):=jH (World.ownsRow.drew HO8.out);have HV9:Hid (kEz w8.drew (some ⟨b8,0,none⟩) (T.mid[k].map kAb)):=jH HV8.out;have HB9:Hid (Below wr.heap.size wr w8.drew):=jH HB8.out.drew;have HC9:Hid (w8.drew.heap[bp]? =some (.cells #[.slice at_ 272 ct,.slice a (64*k) c,.slice none 0 0] 206 (0,0))):=jH HC8.out;have hbase9:w4.heap.size≤w8.drew.heap.size:=hbase;clear d0 e0 d1 e1;generalize w8.drew=w9 at*;refine' kAd (i:=0) (v:=_) [1,3,4,5] (by kernel_rfl) rfl (by kernel_rfl) (fun _ _ _ h=>h) (by rfl) (by rintro w' ⟨c0,c1⟩;go_simp;try with_reducible rfl) HCx.out ?_;simp only[jA,jB,jC,Act.put,jD,jE,jF];refine' kAd (i:=1) (v:=_) [3,4,5] (by kernel_rfl) rfl (by kernel_rfl) (fun _ _ _ h=>h) (by rfl) (by rintro w' ⟨c0,c1⟩;go_simp;try with_reducible rfl) HCx.out ?_;simp only[jA,jB,jC,Act.put,jD,jE,jF];refine' kAd (i:=2) (v:=_) [3,4,5] (by kernel_rfl) rfl (by kernel_rfl) (fun _ _ _ h=>h) (by rfl) (by rintro w' ⟨c0,c1⟩;go_simp;try with_reducible rfl) HCx.out ?_;simp only[jA,jB,jC,Act.put,jD,jE,jF];refine kE1 (i:=3) Try.elemI16 (by kernel_rfl) rfl (by kernel_rfl) (by rfl) (.tmp 28) (.tmp 29) rfl HO9.out hbase9 hlen8 HV9.out (kD1 _) hbn1 hbn2 rfl rfl (fun w' hg=>HKB.out w' hg) ?_;intro a2 c2 w10 ho10 hg10 hn10;simp only[jA,jB,jC,Act.put,jD,jE,jF];refine kA3 4 (by rfl) (by kernel_rfl) (by kernel_rfl) ?_;simp only[List.drop_succ_cons,List.drop_zero];obtain⟨d2,e2⟩:=HKB.out w10 hg10
   have hbp9:bp<w9.heap.size:=(jL HC9.out)
   have HC10:=jH ((kAr hg10 hbp9 (fun q e=>by have:=hok q e;omega)).trans HC9.out);have HO10:=jH ho10;have HG10:=jH hg10;clear ho10 hg10 hn10
   gi_wp2
   show Exit.inBlock 1 _ Exit.normal _ _
   have HC11:Hid ((w10.setCell ⟨bp,1,none⟩ (.slice a2 (64*k+64) c2)).heap[bp]? =some (.cells #[.slice at_ 272 ct,.slice a2 (64*k+64) c2,.slice none 0 0] 206 (0,0))):=jH (by
    have:=jP w10 bp 1 _ _ (.slice a2 (64*k+64) c2) HC10.out
    simpa using this)
   have HO11:Hid (Own w4.heap.size 91 (w10.setCell ⟨bp,1,none⟩ (.slice a2 (64*k+64) c2)) a2 (64*k+64) c2 (kB7 kAb (T.mid.take (k+1)))):=jH (by
    rw[List.take_succ_eq_append_getElem hkl,kFr];refine HO10.out.kept (kAe w10 bp 1 _) ?_
    cases e:(Value.slice a2 (64*k+64) c2).ownBlock with
    | none=>exact .inl rfl
    | some q=>exact .inr (fun e2=>by cases e2;have:=(World.ownsRow.lt HO10.out _ e).1;omega))
   have HB11:Hid (But w4.heap.size (fun b=>b=bp) w4 (w10.setCell ⟨bp,1,none⟩ (.slice a2 (64*k+64) c2))):=jH
    (((HBt.out.trans (But.of_below (HB9.out.mono HBt.out.size))).grown HG10.out hbase9 (fun q e=> .inr (hok q e))).setCell bp 1 _ (.inl rfl))
   generalize (w10.setCell ⟨bp,1,none⟩ (.slice a2 (64*k+64) c2))=w11 at*;clear d2 e2;go_wp2
   exact⟨⟨k+1,a2,c2,by omega,by go_num,HC11.out,HO11.out,HB11.out⟩,by simp[intOf];omega⟩
  ·obtain rfl:k=nm:=by omega
   have hki:¬(k:Int)<(k:Int):=by omega
   have htk:T.mid.take k=T.mid:=List.take_of_length_le (by rw[HNm.out];exact Nat.le_refl _);rw[htk]at HOw;clear htk
   obtain⟨w5,rfl⟩:∃w5,w5=wr:=⟨_,rfl⟩
   have c2:=(kAj.cell_low (val:=val8) HK.out HG4.out)
   have c3:=HBt.out.cell c2 (by omega) (by show ¬g=bp;omega);clear c2
   obtain⟨nl,hnl⟩:∃nl,nl=T.low.length:=⟨_,rfl⟩
   have hnl2:nl≤17408:=by rw[hnl];exact HK.out.lowL
   rw[←hnl]at c3
   have HNl:=jH hnl;clear hnl
   go_wp2
   obtain⟨nmm,hnmm⟩:∃nmm,nmm=k:=⟨_,rfl⟩
   have HCe2:Hid (w5.heap[bp]? =some (.cells #[.slice at_ 272 ct,.slice a (64*nmm) c,.slice none 0 0] 206 (0,0))):=jH (by rw[hnmm];exact HCe.out);have HOw2:Hid (Own w4.heap.size 91 w5 a (64*nmm) c (kB7 kAb T.mid)):=jH (by rw[hnmm];exact HOw.out);have HNmm:=jH (show nmm=T.mid.length by rw[hnmm];exact HNm.out);have hs5:w4.heap.size≤w5.heap.size:=HBt.out.size;clear hnmm HCe HOw
   obtain⟨am,ham⟩:∃am,am=a:=⟨_,rfl⟩
   obtain⟨cm,hcm⟩:∃cm,cm=c:=⟨_,rfl⟩
   rw[←ham,←hcm]at HCe2 HOw2;clear ham hcm
   go_loopw [38] (PaL w5 bp nl at_ ct am (64*nmm) cm T.low) (fun i _=>nl - (intOf i).toNat)
   case atStart=>exact⟨0,none,0,Nat.zero_le _,rfl,HCe2.out,kIb.nil _ _ _,But.refl _ _ _⟩
   case round=>
    obtain⟨k,a,c,hk,rfl,hcell,hown,hbut⟩:=hrel
    have HDe:=jH hcell;clear hcell
    have HOx:=jH hown;clear hown
    have HBu:=jH hbut;clear hbut
    by_cases hkn:k<nl
    ·have hki:(k:Int)<(nl:Int):=by omega
     have hkl:k<T.low.length:=by rw[←HNl.out];exact hkn
     obtain⟨b,o,ha⟩:=HL0.out.some (by omega);subst ha;have hr:=HL0.out.get k hkl
     have hbl:b<bz:=by
      have hml:=HK.out.low _ (List.getElem_mem hkl);have h2:=hr 0 _ (kFf _ 0 (by omega)).1;rw[HBz.out];exact World.block_lt_of_cell? w _ h2
     have HR:Hid (wr.rangeAt b (o+k*128) (kAf val8 T.low[k])):=jH (fun j v hv=>HBu.out.cell (HBt.out.cell ((HB4.out.cell (p:=⟨b,o+k*128+j,none⟩) hbl).trans (hr j v hv)) (by omega) (by show ¬b=bp;omega)) (by omega) (by show ¬b=bp;omega))
     have hbs:(kAf val8 T.low[k]).length=128:=by rw[kBx,HK.out.low _ (List.getElem_mem hkl)]
     clear hr
     go_upto_region 12 with(fail)
     refine wp_region_list ?_;refine kAc (v:= .pointer (some ⟨b,o+k*128,none⟩)) (w':=wr) rfl (by go_simp) ?_;refine wpList_load_mid rfl 244 (.tmp 40) rfl b (o+k*128) rfl (kAf val8 T.low[k]) (.array 64 105) HR.out Try.underlying244 rfl (by rw[hbs];kernel_rfl) ?_;refine kAc (v:= .pointer (some ⟨wr.heap.size,0,none⟩)) (w':=wr.alloc (.cells (kAf val8 (List.replicate 64 (((0:Int),ByteArray.empty):El))).toArray 244)) rfl (by kernel_rfl) ?_
     obtain⟨b8,hb8⟩:∃b8,b8=wr.heap.size:=⟨_,rfl⟩
     have hA7:=jN wr (.cells (kAf val8 (List.replicate 64 (((0:Int),ByteArray.empty):El))).toArray 244);have hB7:Below wr.heap.size wr (wr.alloc (.cells (kAf val8 (List.replicate 64 (((0:Int),ByteArray.empty):El))).toArray 244)):=(Below.refl _ _).alloc jR _;rw[←hb8]at hA7 hB7 ⊢;generalize hw7:wr.alloc (.cells (kAf val8 (List.replicate 64 (((0:Int),ByteArray.empty):El))).toArray 244)=w7 at*
     have hT7:w7.there b8 0 (kAf val8 T.low[k]).toArray.size:=fun j hj=>by
      rw[Nat.zero_add,jK w7 b8 j _ _ (0,0) hA7];refine⟨?_,jO w7 b8 j _ _ hA7⟩;rw[List.getElem?_toArray,List.getElem?_eq_getElem (by rw[kBx,List.length_replicate];simpa [hbs]using hj)]
      rfl
     refine wpList_store_mid rfl 244 (.tmp 7) (.tmp 41) rfl b8 0 (kAf val8 T.low[k]).toArray rfl rfl hT7 (by rw[List.size_toArray,hbs];kernel_rfl) (all_oneCell_toArray (fun u hu=>kB6 _ u (by simpa using hu))) ?_;have HR8:Hid ((w7.setCells b8 0 (kAf val8 T.low[k]).toArray.toList).rangeAt b8 0 (kAf val8 T.low[k])):=jH (World.rangeAt_setCells_same w7 b8 0 _ (by simpa using hT7))
     have HB8:Hid (Below wr.heap.size wr (w7.setCells b8 0 (kAf val8 T.low[k]).toArray.toList)):=jH (by
      rw[←hb8]
      exact hB7.trans (kBa (kC3 b8 _ 0 w7) (fun k e=>by cases e;exact Nat.le_refl _) (by rw[hb8];exact hB7.size)))
     generalize (w7.setCells b8 0 (kAf val8 T.low[k]).toArray.toList)=w8 at*;clear hT7 hA7 hB7 hw7
     have HB8e:=jH hb8;clear hb8
     have hlen8:(kAf val8 T.low[k]).length=64*2:=hbs
     have hbpr:bp<wr.heap.size:=(jL HDe.out)
     have HC8:=jH ((HB8.out.block bp hbpr).trans HDe.out);have HO8:Hid (kIb w5.heap.size 105 w8 a (64*k) c (kId (T.low.take k))):=jH (HOx.out.below HB8.out jR);have d0:=jK w8 bp 2 _ _ (0,0) HC8.out;have e0:=jO w8 bp 2 _ _ HC8.out;simp at d0
     have hok:∀q,(Value.slice a (64*k) c).ownBlock=some q→w5.heap.size≤q:=fun q e=>(World.ownsRow.lt HO8.out q e).1
     have hbase:w5.heap.size≤w8.heap.size:=Nat.le_trans HBu.out.size HB8.out.size;have HKB:=jH (fun(w':World) (hg:w8.drew.grownBy w' (Value.slice a (64*k) c).ownBlock)=>show w'.cell? ⟨bp,2,none⟩=some (.slice a (64*k) c)∧w'.frozen? ⟨bp,2,none⟩=false from⟨kAv hg d0 (fun q e=>by have:=hok q e;omega),jO w' bp 2 _ _ ((kAr hg (jL HC8.out) (fun q e=>by have:=hok q e;omega)).trans HC8.out)⟩);go_wp2
     have d1:w8.drew.cell? ⟨bp,2,none⟩=some (.slice a (64*k) c):=d0;have e1:w8.drew.frozen? ⟨bp,2,none⟩=false:=e0
     have hbn1:(64*k+64)*24≤140737488355328:=by omega
     have hbn2:64*k+64≤maxLen:=by unfold maxLen;omega
     refine wp_region_noPanic ?_;refine(wpIn_wide (n:=2)).1 ?_;refine kAi [4,5] (fun w':World=>w'.cell? ⟨bp,2,none⟩=some (.slice a (64*k) c)∧w'.frozen? ⟨bp,2,none⟩=false) (by kernel_rfl) ?_;have HCx:Hid ((fun w':World=>w'.cell? ⟨bp,2,none⟩=some (.slice a (64*k) c)∧w'.frozen? ⟨bp,2,none⟩=false) w8.drew):=jH ⟨d1,e1⟩;have HO9:Hid (kIb w5.heap.size 105 w8.drew a (64*k) c (kId (T.low.take k))):=jH (World.ownsRow.drew HO8.out);have HV9:Hid (w8.drew.rangeAt b8 0 (kAf val8 T.low[k])):=jH HR8.out;have HB9:Hid (Below wr.heap.size wr w8.drew):=jH HB8.out.drew;have HC9:Hid (w8.drew.heap[bp]? =some (.cells #[.slice at_ 272 ct,.slice am (64*nmm) cm,.slice a (64*k) c] 206 (0,0))):=jH HC8.out;have hbase9:w5.heap.size≤w8.drew.heap.size:=hbase;clear d0 e0 d1 e1;generalize w8.drew=w9 at*;refine' kAd (i:=0) (v:=_) [1,3,4,5] (by kernel_rfl) rfl (by kernel_rfl) (fun _ _ _ h=>h) (by rfl) (by rintro w' ⟨c0,c1⟩;go_simp;try with_reducible rfl) HCx.out ?_;simp only[jA,jB,jC,Act.put,jD,jE,jF];refine' kAd (i:=1) (v:=_) [3,4,5] (by kernel_rfl) rfl (by kernel_rfl) (fun _ _ _ h=>h) (by rfl) (by rintro w' ⟨c0,c1⟩;go_simp;try with_reducible rfl) HCx.out ?_;simp only[jA,jB,jC,Act.put,jD,jE,jF];refine' kAd (i:=2) (v:=_) [3,4,5] (by kernel_rfl) rfl (by kernel_rfl) (fun _ _ _ h=>h) (by rfl) (by rintro w' ⟨c0,c1⟩;go_simp;try with_reducible rfl) HCx.out ?_;simp only[jA,jB,jC,Act.put,jD,jE,jF];refine kLt (i:=3) Try.elemT (by kernel_rfl) rfl (by kernel_rfl) (by rfl) (.tmp 43) (.tmp 44) rfl HO9.out hbase9 hlen8 HV9.out (fun u hu=>kB6 _ u (by simpa using hu)) (by omega) hbn1 hbn2 rfl rfl (fun w' hg=>HKB.out w' hg) ?_;intro a2 c2 w10 ho10 hg10 hn10;simp only[jA,jB,jC,Act.put,jD,jE,jF];refine kA3 4 (by rfl) (by kernel_rfl) (by kernel_rfl) ?_;simp only[List.drop_succ_cons,List.drop_zero];obtain⟨d2,e2⟩:=HKB.out w10 hg10
     have hbp9:bp<w9.heap.size:=(jL HC9.out)
     have HC10:=jH ((kAr hg10 hbp9 (fun q e=>by have:=hok q e;omega)).trans HC9.out);have HO10:=jH ho10;have HG10:=jH hg10;clear ho10 hg10 hn10
     gi_wp2
     show Exit.inBlock 1 _ Exit.normal _ _
     have HC11:Hid ((w10.setCell ⟨bp,2,none⟩ (.slice a2 (64*k+64) c2)).heap[bp]? =some (.cells #[.slice at_ 272 ct,.slice am (64*nmm) cm,.slice a2 (64*k+64) c2] 206 (0,0))):=jH (by
      have:=jP w10 bp 2 _ _ (.slice a2 (64*k+64) c2) HC10.out
      simpa using this)
     have HO11:Hid (kIb w5.heap.size 105 (w10.setCell ⟨bp,2,none⟩ (.slice a2 (64*k+64) c2)) a2 (64*k+64) c2 (kId (T.low.take (k+1)))):=jH (by
      rw[List.take_succ_eq_append_getElem hkl,kLh];refine HO10.out.kept (kAe w10 bp 2 _) ?_
      cases e:(Value.slice a2 (64*k+64) c2).ownBlock with
      | none=>exact .inl rfl
      | some q=>exact .inr (fun e2=>by cases e2;have:=(World.ownsRow.lt HO10.out _ e).1;omega))
     have HB11:Hid (But w5.heap.size (fun b=>b=bp) w5 (w10.setCell ⟨bp,2,none⟩ (.slice a2 (64*k+64) c2))):=jH
      (((HBu.out.trans (But.of_below (HB9.out.mono HBu.out.size))).grown HG10.out hbase9 (fun q e=> .inr (hok q e))).setCell bp 2 _ (.inl rfl))
     generalize (w10.setCell ⟨bp,2,none⟩ (.slice a2 (64*k+64) c2))=w11 at*;clear d2 e2;go_wp2
     exact⟨⟨k+1,a2,c2,by omega,by go_num,HC11.out,HO11.out,HB11.out⟩,by simp[intOf];omega⟩
    ·obtain rfl:k=nl:=by omega
     have hki:¬(k:Int)<(k:Int):=by omega
     have htk:T.low.take k=T.low:=List.take_of_length_le (by rw[HNl.out];exact Nat.le_refl _);rw[htk]at HOx;clear htk
     have hz4:bz<w4.heap.size:=(jL HZ4.out)
     have HZr:=jH (HBu.out.keep (HBt.out.keep HZ4.out hz4 (by show ¬bz=bp;omega)) (by omega) (by show ¬bz=bp;omega));have p0:=jK wr bp 0 _ _ (0,0) HDe.out;have p1:=jK wr bp 1 _ _ (0,0) HDe.out;have p2:=jK wr bp 2 _ _ (0,0) HDe.out;have z0:=jK wr bz 0 _ _ (0,0) HZr.out;have z1:=jK wr bz 1 _ _ (0,0) HZr.out;have z2:=jK wr bz 2 _ _ (0,0) HZr.out;have y0:=jO wr bz 0 _ _ HZr.out;have y1:=jO wr bz 1 _ _ HZr.out;have y2:=jO wr bz 2 _ _ HZr.out;simp at p0 p1 p2 z0 z1 z2;go_wp2
     obtain⟨W,hW⟩:∃W,W=((wr.setCell ⟨bz,0,none⟩ (.slice at_ 272 ct)).setCell ⟨bz,1,none⟩ (.slice am (64*nmm) cm)).setCell ⟨bz,2,none⟩ (.slice a (64*k) c):=⟨_,rfl⟩
     rw[←hW]
     have hC:W.heap[bz]? =some (.cells #[.slice at_ 272 ct,.slice am (64*nmm) cm,.slice a (64*k) c] 206 (0,0)):=by
      rw[hW];have e1:=jP wr bz 0 _ _ (.slice at_ 272 ct) HZr.out;have e2:=jP _ bz 1 _ _ (.slice am (64*nmm) cm) e1;have e3:=jP _ bz 2 _ _ (.slice a (64*k) c) e2
      simpa using e3
     have hO:∀q,q≠bz→W.heap[q]? =wr.heap[q]? :=fun q hq=>by
      rw[hW,jQ _ ⟨bz,2,none⟩ q _ hq,jQ _ ⟨bz,1,none⟩ q _ hq,jQ _ ⟨bz,0,none⟩ q _ hq]
     have hBe:Below bz wr W:=by
      rw[hW];exact(((Below.refl bz wr).setCell (p:=⟨bz,0,none⟩) jR _).setCell (p:=⟨bz,1,none⟩) jR _).setCell (p:=⟨bz,2,none⟩) jR _
     have v0:=jK W bz 0 _ _ (0,0) hC;have v1:=jK W bz 1 _ _ (0,0) hC;have v2:=jK W bz 2 _ _ (0,0) hC;simp at v0 v1 v2;clear hW;have hs1:=HW1.out.2.2.2;have hbpe:=HBp.out;refine kCz (v:= .agg #[.slice at_ 272 ct,.slice am (64*nmm) cm,.slice a (64*k) c]) (by simp[results,Try.results111,go_sem,v0,v1,v2]) ?_
     have hDis:Dis3 at_ am a:=by
      have l1:∀q,kKr am=some q→w4.heap.size≤q∧q<w5.heap.size:=fun q e=>World.ownsRow.lt HOw2.out q ((kCx _ _ _).trans e)
      have l2:∀q,kKr a=some q→w5.heap.size≤q:=fun q e=>(World.ownsRow.lt HOx.out q ((kCx _ _ _).trans e)).1
      have l3:∀q,kKr at_=some q→q<w4.heap.size:=fun q e=>(World.ownsRow.lt HOt4.out q ((kCx _ _ _).trans e)).2
      refine⟨fun q e=>⟨fun e2=> ?_,fun e2=> ?_⟩,fun q e e2=> ?_⟩
      ·have h1:=l3 q e;have h2:=(l1 q e2).1;omega
      ·have h1:=l3 q e;have h2:=l2 q e2;have h3:=hs5;omega
      ·have h1:=(l1 q e).2;have h2:=l2 q e2;omega
     refine⟨at_,ct,am,cm,a,c,by rw[HNmm.out,HNl.out],?_,?_,?_,?_,hDis⟩
     ·refine kFi HOt4.out (by rw[hs1,HBz.out];omega) (fun q e=> ?_);have hl:=World.ownsRow.lt HOt4.out q e;rw[hO q (by omega),HBu.out.block q (by omega) (by show ¬q=bp;omega),HBt.out.block q (by omega) (by show ¬q=bp;omega)]
     ·rw[←HNmm.out];refine kFi HOw2.out (by rw[←HBz.out];omega) (fun q e=> ?_);have hl:=World.ownsRow.lt HOw2.out q e;rw[hO q (by omega),HBu.out.block q (by omega) (by show ¬q=bp;omega)]
     ·rw[←HNl.out];refine kIb.keep HOx.out (by rw[←HBz.out];omega) (fun q e=> ?_);have hl:=World.ownsRow.lt HOx.out q e;rw[hO q (by omega)]
     ·rw[←HBz.out];exact((HB4.out.trans (HBt.out.below bz (by omega) (fun q hq=>by have:q=bp:=hq;omega))).trans (HBu.out.below bz (by omega) (fun q hq=>by have:q=bp:=hq;omega))).trans hBe
theorem kCi (w:World)(g:Nat)(T:kAy El)(hk:kA5 T)(h0:0<T.low.length)(h:kAj val8 243 128 w g T):
  Calls Try.prog 111 #[.pointer (some ⟨g,0,none⟩)] w fun e w'=>∃at_ ct am cm al cl,e= .returned (.agg #[.slice at_ 272 ct,.slice am (64*T.mid.length) cm,.slice al (64*T.low.length) cl])∧
   Own w.heap.size 91 w' at_ 272 ct (T.top.map kAb)∧Own w.heap.size 91 w' am (64*T.mid.length) cm (kB7 kAb T.mid)∧kIb w.heap.size 105 w' al (64*T.low.length) cl (kId T.low)∧Below w.heap.size w w':=
 (kCr w g T hk h0 h).mono (by
  rintro e w' ⟨at_,ct,am,cm,al,cl,rfl,o1,o2,o3,hb, -⟩
  exact⟨at_,ct,am,cm,al,cl,rfl,o1,o2,o3,hb⟩)
end Go.Proofs.Ytabbabkmojaoaaa.VT

namespace Go.Proofs.Ytabbabkmojaoaaa.VT
open Go.RowKit
attribute [local go_sem] Oper.semAt_some
theorem kEi (w0:World)(g:Nat)(T:kAy El)(hk:kA5 T)(h0:0<T.low.length)(ht:kAj val8 243 128 w0 g T)(cf:Nat)(lb:Array Value)(J:Nat→World→Prop)(Jx:World→Prop)(w:World)(eg:∀args W,(callFunc cf args).run Try.prog W= .ok (.enter cf args) W)
  (hJ:∀k W,J k W→kHt w0 W)
  (hcall:∀k W (b o:Nat),k<17408→J k W→w0.rangeAt b o (kAf val8 (kBd T k))→
   Calls Try.prog cf (#[.pointer (some ⟨b,o,none⟩)]++lb) W fun e W'=>(e= .returned (.bool true)∧J (k+1) W')∨(e= .returned (.bool false)∧Jx W'))
  (h1:J 0 w):
  Calls Try.prog 148 #[.pointer (some ⟨g,0,none⟩),.func (.func cf) #[] lb] w fun e w'=>(∃v,e= .returned v)∧(J 17408 w'∨Jx w'):=by
 have HJ:=jH hJ;clear hJ
 have HCl:=jH hcall;clear hcall
 have H1:=jH h1;clear h1
 have HEg:=jH eg;clear eg
 have HK:=jH hk;clear hk
 obtain⟨am,cm,al,cl,hh1,hh2,hh3⟩:=ht
 have HG1:=jH hh1;have HG2:=jH hh2;have HG3:=jH hh3
 clear hh1 hh2 hh3;have hh1:=(HJ.out 0 w H1.out).block HG1.out
 have HR0:Hid (w.rangeAt g 0 (kAf kAb T.top)):=jH (by
  intro j v hv
  have hjl:j<T.top.length:=by
   have:=(List.getElem?_eq_some_iff.1 hv).1;rw[kAh (sz:=1) (fun _=>rfl)]at this;omega
  rw[Nat.zero_add,kAj.cell_top (val:=val8) HK.out hh1 j (by rw[←HK.out.top];exact hjl),kAn (d:=0) hjl,←hv,kCe kA0 _ j hjl])
 have hts:(kAf kAb T.top).length=272:=by rw[kAh (sz:=1) (fun _=>rfl),HK.out.top]
 clear hh1
 go_enter Try.func148,Try.ntmps148
 go_upto_region 0 with(fail)
 refine wp_region_list ?_;refine kAc (v:= .pointer (some ⟨g,0,none⟩)) (w':=w) rfl (by rfl) ?_;refine kAc (v:= .pointer (some ⟨g,0,none⟩)) (w':=w) rfl (by rfl) ?_;refine kAc (v:= .pointer (some ⟨g,0,none⟩)) (w':=w) rfl (by go_simp) ?_;refine wpList_load_mid rfl 110 (.tmp 10) rfl g 0 rfl (kAf kAb T.top) (.array 272 91) HR0.out Try.underlying110 rfl (by rw[hts];kernel_rfl) ?_
 have HTop:Hid (∀c,c<272→(kAf kAb T.top).toArray[c]? =some (kAb (T.top.getD c 0))):=jH (fun c hc=>by
  have hcl:c<T.top.length:=by rw[HK.out.top];exact hc
  rw[List.getElem?_toArray,kCe kA0 _ c hcl,kAn (d:=0) hcl])
 generalize (kAf kAb T.top).toArray=top at*;clear hts HR0;go_wp2
 go_loopw [12] (BlO J) (fun i _=>272 - (intOf i).toNat)
 case atStart=>exact⟨0,Nat.zero_le _,rfl,H1.out⟩
 case round=>
  obtain⟨c,hc,rfl,hj⟩:=hrel
  have HJc:=jH hj;clear hj
  by_cases hcn:c<272
  ·have hci:(c:Int)<272:=by omega
   have a1:=kGa top c _ hcn (HTop.out c hcn) wr
   have htl:c<T.top.length:=by rw[HK.out.top];exact hcn
   have hil:T.top.getD c 0<T.mid.length:=by rw[kAn (d:=0) htl];exact HK.out.topN _ (List.getElem_mem htl)
   obtain⟨i,hi⟩:∃i,i=T.top.getD c 0:=⟨_,rfl⟩
   rw[←hi]at a1 hil
   have HI:=jH hi;clear hi
   have hly:=HJ.out _ _ HJc.out;have c1:=kAj.cell_mid (val:=val8) HK.out (hly.block HG1.out);obtain⟨bm,om,rfl⟩:=HG2.out.some (by omega);have HR:=jH (hly.range (HG2.out.get i hil));clear hly;have hml:(T.mid[i]).length=64:=HK.out.mid _ (List.getElem_mem hil)
   have hms:(kAf kAb T.mid[i]).length=64:=by rw[kAh (sz:=1) (fun _=>rfl),hml]
   have hnm:T.mid.length≤272:=HK.out.midL
   have HMid:Hid (∀j,j<64→(kAf kAb T.mid[i]).toArray[j]? =some (kAb ((T.mid.getD i []).getD j 0))):=jH (fun j hj=>by
    rw[List.getElem?_toArray,kCe kA0 _ j (by omega),kAn (d:=[]) hil,kAn (d:=0) (by omega)])
   unfold kAb at a1
   have g1:(0:Int)≤(i:Int):=by omega
   have g2:(i:Int)<((T.mid.length:Nat):Int):=by omega
   generalize hnn:T.mid.length=nm at c1 g2 hnm;clear hnn
   go_upto_region 3 with(fail)
   refine wp_region_list ?_;refine kAc (v:= .pointer (some ⟨g,0,none⟩)) (w':=wr) rfl (by rfl) ?_;refine kAc (v:= .pointer (some ⟨g,0,none⟩)) (w':=wr) rfl (by rfl) ?_;refine kAc (v:= .pointer (some ⟨g,272,none⟩)) (w':=wr) rfl (by go_simp) ?_;refine kAc (v:= .slice (some ⟨bm,om,none⟩) nm cm) (w':=wr) rfl (by go_simp) ?_;refine kAc (v:= .int .u16 (i:Nat)) (w':=wr) rfl (by rfl) ?_;refine kAc (v:= .pointer (some ⟨bm,om+i*64,none⟩)) (w':=wr) rfl (by go_simp) ?_;refine wpList_load_mid rfl 120 (.tmp 20) rfl bm (om+i*64) rfl (kAf kAb T.mid[i]) (.array 64 91) HR.out Try.underlying120 rfl (by rw[hms];kernel_rfl) ?_;generalize (kAf kAb T.mid[i]).toArray=mid at*;clear hms HR c1 g1 g2 hnm a1;go_wp2
   go_loopw [22] (BlI J c) (fun i _=>64 - (intOf i).toNat)
   case atStart=>exact⟨0,Nat.zero_le _,rfl,HJc.out⟩
   case round=>
    obtain⟨j,hj,rfl,hjj⟩:=hrel
    have HJj:=jH hjj;clear hjj
    by_cases hjn:j<64
    ·have hji:(j:Int)<64:=by omega
     have b1:=kF9 mid j _ hjn (HMid.out j hjn) wr;have hly:=HJ.out _ _ HJj.out;have c2:=kAj.cell_low (val:=val8) HK.out (hly.block HG1.out);clear hly
     have hkk:64*c+j<17408:=by omega
     have hLow:kBd T (64*c+j)=T.low.getD ((T.mid.getD i []).getD j 0) []:=by
      unfold kBd;rw[show(64*c+j) / 64=c by omega,show(64*c+j) % 64=j by omega,←HI.out]
     have hmj:j<(T.mid[i]).length:=by rw[hml];exact hjn
     have hll:(T.mid.getD i []).getD j 0<T.low.length:=by
      rw[kAn (d:=[]) hil,kAn (d:=0) hmj];exact HK.out.midN _ (List.getElem_mem hil) _ (List.getElem_mem hmj)
     obtain⟨q,hq⟩:∃q,q=(T.mid.getD i []).getD j 0:=⟨_,rfl⟩
     rw[←hq]at b1 hLow hll;obtain⟨bl,ol,rfl⟩:=HG3.out.some (by omega)
     have HRl:Hid (w0.rangeAt bl (ol+q*128) (kAf val8 (kBd T (64*c+j)))):=jH (by
      rw[hLow,kAn (d:=[]) hll]
      exact HG3.out.get q hll)
     have hnl:T.low.length≤17408:=HK.out.lowL;clear hq hLow;unfold kAb at b1
     have g3:(0:Int)≤(q:Int):=by omega
     have g4:(q:Int)<((T.low.length:Nat):Int):=by omega
     generalize hnn:T.low.length=nl at c2 g4 hnl;clear hnn hll hmj hil hml;have heg:=HEg.out
     go_wp2_with fail
     refine(HCl.out (64*c+j) wr bl (ol+q*128) hkk HJj.out HRl.out).mono ?_
     rintro e w5 (⟨rfl,h5⟩ | ⟨rfl,h5⟩)
     ·have H5:=jH h5;clear h5 heg
      go_wp2
      go_roundw
      case rel=>exact⟨j+1,by omega,by go_num,by rw[←Nat.add_assoc];exact H5.out⟩
      case measure=>simp[intOf];omega
     ·have H5:=jH h5;clear h5 heg
      go_wp2
      refine jS (results_none rfl _ _ _) rfl ?_;exact⟨⟨_,rfl⟩,.inr H5.out⟩
    ·obtain rfl:j=64:=by omega
     have HJ6:Hid (J (64*(c+1)) wr):=jH HJj.out;go_wp2
     go_roundw
     case rel=>exact⟨c+1,by omega,by go_num,HJ6.out⟩
     case measure=>simp[intOf];omega
  ·obtain rfl:c=272:=by omega
   have hJ2:J 17408 wr:=HJc.out
   have HJ2:=jH hJ2;clear hJ2
   go_wp2
   go_end0
   exact⟨⟨_,rfl⟩,.inl HJ2.out⟩
end Go.Proofs.Ytabbabkmojaoaaa.VT

namespace Go.Proofs.Ytabbabkmojaoaaa.VT
open Go.RowKit
attribute [local go_sem] Oper.semAt_some
def neV:El→El→Bool:=fun a b=> !decide (a=b)
def kJi (s:kA2 El):Array Value:= #[.agg #[.int .i32 (s.f:Nat),.int .i32 (s.t:Nat),.int .i32 s.v.1,.string s.v.2]]
def kEr (ne:El→El→Bool) (f:Nat→El) (n:Nat):List Value:=if n=0 then [.int .i32 0,.int .i32 (-1),.int .i32 (f 0).1,.string (f 0).2]else [.int .i32 ((spT ne f n).2:Nat),.int .i32 ((n - 1:Nat):Int),.int .i32 (f (spT ne f n).2).1,.string (f (spT ne f n).2).2]
structure kFc (J:(Nat→Prop)→List (kA2 El)→World→Prop) (w0:World) (ne:El→El→Bool) (f:Nat→El) (l bt bn bm n:Nat) (wr:World):Prop where
 j:J (fun k=>k=bt∨k=bn∨k=bm) (spT ne f n).1 wr
 lies:kHt w0 wr
 ct:wr.heap[bt]? =some (.cells #[.func (.yield l) #[] #[]] 259 (0,0))
 cn:wr.heap[bn]? =some (.cells (kEr ne f n).toArray 199 (0,0))
 cm:wr.heap[bm]? =some (.cells #[.bool true] 4 (0,0))
def SpR (J:(Nat→Prop)→List (kA2 El)→World→Prop) (w0:World) (ne:El→El→Bool) (f:Nat→El) (l bt bn bm k:Nat) (i:Value) (wr:World):Prop:=
 ∃j:Nat,j≤64∧i= .int .i64 (j:Nat)∧kFc J w0 ne f l bt bn bm (64*k+j) wr
def SpY (J Jx:(Nat→Prop)→List (kA2 El)→World→Prop) (R:Nat→Prop) (full:List (kA2 El)) (l:Nat):Prop:=
 ∀T pre x W1,J T pre W1→pre.length<full.length→pre++[x]=full.take (pre.length+1)→YieldAt Fence.wide 1 Try.prog l (kJi x) W1 fun e W'=>
   (e= .returned (.bool true)∧J T (pre++[x]) W'∧kDc T R W1 W')∨(e= .returned (.bool false)∧Jx T (pre++[x]) W'∧kDc T (fun _=>False) W1 W')
theorem kFc.of_below {J:(Nat→Prop)→List (kA2 El)→World→Prop}{w0:World}{ne:El→El→Bool}{f:Nat→El}{l bt bn bm n:Nat}{wr wr':World}(h:kFc J w0 ne f l bt bn bm n wr)(hJ:kD8 J)(hb:Below wr.heap.size wr wr')(h0:w0.heap.size≤wr.heap.size):kFc J w0 ne f l bt bn bm n wr':=
 ⟨hJ _ _ _ _ _ h.j (Off.of_below hb) (kB4.refl _ _ _),fun k hk=>(hb.block k (Nat.lt_of_lt_of_le hk h0)).trans (h.lies k hk),(hb.block _ (jL h.ct)).trans h.ct,(hb.block _ (jL h.cn)).trans h.cn,(hb.block _ (jL h.cm)).trans h.cm⟩
theorem kMs {W:World}{b:Nat}{t:TypeId}{x y z u:Value}(h:W.heap[b]? =some (.cells #[x,y,z,u] t (0,0)))(x' y' z' u':Value):
  ((((W.setCell ⟨b,0,none⟩ x').setCell ⟨b,1,none⟩ y').setCell ⟨b,2,none⟩ z').setCell ⟨b,3,none⟩ u').heap[b]? =some (.cells #[x',y',z',u'] t (0,0))∧W.grownBy ((((W.setCell ⟨b,0,none⟩ x').setCell ⟨b,1,none⟩ y').setCell ⟨b,2,none⟩ z').setCell ⟨b,3,none⟩ u') (some b):=by
 have h1:=jP W b 0 _ _ x' h;have h2:=jP _ b 1 _ _ y' h1;have h3:=jP _ b 2 _ _ z' h2;have h4:=jP _ b 3 _ _ u' h3;exact⟨h4,kAm (kAm (kAm (kAe W b 0 _) (kAe _ b 1 _)) (kAe _ b 2 _)) (kAe _ b 3 _)⟩
theorem kGk (xs ys:Array Value)(x y:Operand)(w:World):(eqGuard .neq 105 x y (.agg xs) (.agg ys)).run Try.prog w= .ok () w:=run_eqGuard_agg w .neq 105 x y xs ys (by kernel_rfl)
theorem kGl (a b:El)(w:World):(binOp .neq 105 (.agg #[.int .i32 a.1,.string a.2]) (.agg #[.int .i32 b.1,.string b.2])).run Try.prog w= .ok (.bool (neV a b)) w:=by
 rw[run_neq_struct];have h:=kM9 w 9997 a b;unfold val8 at h;rw[show(10000:Nat)=9997+3 from rfl,h];simp[neV,Result.andThen]
theorem kFc.box {J:(Nat→Prop)→List (kA2 El)→World→Prop}{w0:World}{ne:El→El→Bool}{f:Nat→El}{l bt bn bm n:Nat}{wr:World}(h:kFc J w0 ne f l bt bn bm n wr)(hJ:kD8 J)(o:Obj):
  J (fun k=>(k=bt∨k=bn∨k=bm)∨k=wr.heap.size) (spT ne f n).1 (wr.alloc o):=
 hJ _ _ _ _ _ h.j (Off.of_below ((Below.refl wr.heap.size wr).alloc jR o)) (fun k hk=>hk.elim .inl (fun h=> .inr ⟨by omega,by have:=World.size_alloc wr o;omega⟩))
theorem kFc.put {J:(Nat→Prop)→List (kA2 El)→World→Prop}{w0:World}{ne:El→El→Bool}{f:Nat→El}{l bt bn bm n:Nat}{wr wr':World}(h:kFc J w0 ne f l bt bn bm n wr)(hJ:kD8 J)(hg:wr.grownBy wr' (some bn))(h1:bt≠bn)(h2:bm≠bn)(h0:w0.heap.size≤bn)(m:Nat)
  (hm:(spT ne f m).1=(spT ne f n).1)(hc:wr'.heap[bn]? =some (.cells (kEr ne f m).toArray 199 (0,0))):kFc J w0 ne f l bt bn bm m wr':=by
 have oth:∀k,k<wr.heap.size→k≠bn→wr'.heap[k]? =wr.heap[k]? :=fun k hk hne=>hg.block k hk (fun e=>hne (by simpa using e))
 have z1:=(jL h.ct)
 have z2:=(jL h.cn)
 have z3:=(jL h.cm)
 exact⟨hm ▸ hJ _ _ _ _ _ h.j (Off.of_grown hg (fun k e=>by cases e;exact .inr (.inl rfl))) (kB4.refl _ _ _),fun k hk=>(oth k (by omega) (by omega)).trans (h.lies k hk),(oth bt z1 h1).trans h.ct,hc,(oth bm z3 h2).trans h.cm⟩
theorem kFc.kept {J:(Nat→Prop)→List (kA2 El)→World→Prop}{w0:World}{ne:El→El→Bool}{f:Nat→El}{l bt bn bm n:Nat}{wr W:World}{R:Nat→Prop}(h:kFc J w0 ne f l bt bn bm n wr)(hR0:∀k,k<w0.heap.size→R k)
  {bv:Nat}(hk:kDc (fun k=>(k=bt∨k=bn∨k=bm)∨k=bv) R wr W)(h0:w0.heap.size≤wr.heap.size):
  kHt w0 W∧W.heap[bt]? =some (.cells #[.func (.yield l) #[] #[]] 259 (0,0))∧W.heap[bn]? =some (.cells (kEr ne f n).toArray 199 (0,0))∧W.heap[bm]? =some (.cells #[.bool true] 4 (0,0)):=
 ⟨fun k hk'=>(hk.block k (by omega) (.inr (hR0 k hk'))).trans (h.lies k hk'),hk.below h.ct (.inl (.inl (.inl rfl))),hk.below h.cn (.inl (.inl (.inr (.inl rfl)))),hk.below h.cm (.inl (.inl (.inr (.inr rfl))))⟩
theorem kFa (J Jx:(Nat→Prop)→List (kA2 El)→World→Prop)(R:Nat→Prop)(w0:World)(f:Nat→El)(l bt bn bm k N:Nat)(hN:N=1114112)(W:World)(b o:Nat)(bs:List El)(hkk:k<17408)(hbl:bs.length=64)(hbs:∀j,j<64→bs.getD j ((0:Int),ByteArray.empty)=f (64*k+j))
  (hJ:kD8 J)(hJx:kD8 Jx)(hY:SpY J Jx R (spL neV f N) l)(hR0:∀k,k<w0.heap.size→R k)(h1:bt≠bn)(h2:bm≠bn)(h3:bt≠bm)(h0n:w0.heap.size≤bn)(h0m:w0.heap.size≤bm)(hb:w0.rangeAt b o (kAf val8 bs))(hst:kFc J w0 neV f l bt bn bm (64*k) W):
  Calls Try.prog 149 #[.pointer (some ⟨b,o,none⟩),.pointer (some ⟨bn,0,none⟩),.pointer (some ⟨bt,0,none⟩),.pointer (some ⟨bm,0,none⟩)] W fun e W'=>
   (e= .returned (.bool true)∧kFc J w0 neV f l bt bn bm (64*(k+1)) W')∨(e= .returned (.bool false)∧(∃T q,0<q∧q≤(spL neV f N).length∧Jx T ((spL neV f N).take q) W')∧W'.heap[bm]? =some (.cells #[.bool false] 4 (0,0))):=by
 have HN:=jH hN;clear hN
 have HJ:=jH hJ;clear hJ
 have HJx:=jH hJx;clear hJx
 have HY:=jH hY;clear hY
 have HR0:=jH hR0;clear hR0
 have HB:=jH hb;clear hb
 have HBs:=jH hbs;clear hbs
 have HS:=jH hst;clear hst
 have HNe:=jH (And.intro h1 (And.intro h2 h3));clear h1 h2 h3
 go_enter Try.func149,Try.ntmps149
 go_wp2
 go_loopw [10] (SpR J w0 neV f l bt bn bm k) (fun i _=>64 - (intOf i).toNat)
 case atStart=>exact⟨0,Nat.zero_le _,rfl,HS.out⟩
 case round=>
  obtain⟨j,hj,rfl,hst⟩:=hrel
  have HST:=jH hst;clear hst
  by_cases hjn:j<64
  ·have hji:(j:Int)<64:=by omega
   have hjl:j<bs.length:=by omega
   have hbj:bs[j]=f (64*k+j):=by rw[←HBs.out j hjn,kAn hjl]
   have q0:wr.cell? ⟨b,o+j*2,none⟩=some (.int .i32 (f (64*k+j)).1):=by rw[HST.out.lies.range HB.out (j*2) _ (kFf bs j hjl).1,hbj]
   have q0b:wr.cell? ⟨b,o+j*2+1,none⟩=some (.string (f (64*k+j)).2):=by
    have h2:=HST.out.lies.range HB.out (j*2+1) _ (kFf bs j hjl).2;rw[←Nat.add_assoc]at h2;rw[h2,hbj]
   clear hbj;have HJn:Hid (j<64):=jH hjn
   obtain⟨n,hn⟩:∃n,n=64*k+j:=⟨_,rfl⟩
   have hnN:n<1114112:=by omega
   rw[←hn]at q0 q0b HST
   have hsz0:w0.heap.size≤wr.heap.size:=by have:=(jL HST.out.cn);omega
   have hB1:=(Below.refl wr.heap.size wr).alloc jR (.cells #[.int .i32 (f n).1,.string (f n).2] 105);have hA1:=jN wr (.cells #[.int .i32 (f n).1,.string (f n).2] 105);have hSt1:=HST.out.of_below HJ.out hB1 hsz0;have hJA:=HST.out.box HJ.out (.cells #[.int .i32 (f n).1,.string (f n).2] 105)
   obtain⟨bv,hbv⟩:∃bv,bv=wr.heap.size:=⟨_,rfl⟩
   obtain⟨wA,hwA⟩:∃wA,wA=wr.alloc (.cells #[.int .i32 (f n).1,.string (f n).2] 105):=⟨_,rfl⟩
   rw[←hwA]at hB1 hA1 hSt1 hJA;rw[←hbv]at hA1 hJA
   have HWA:=jH hwA;have HBv:=jH hbv;have HA1:=jH hA1
   have hbvn:bn≠bv∧bm≠bv:=by
    have h1:=(jL HST.out.cn)
    have h2:=(jL HST.out.cm)
    omega
   have HBvn:=jH hbvn;have HNn:=jH hn;clear hn hbvn hwA hbv
   go_upto_region 4 with(fail)
   rw[←HWA.out,←HBv.out];clear hB1 hA1 hsz0 q0 q0b HST HWA HBv
   have HST:=jH hSt1;have HJA:=jH hJA;clear hSt1 hJA
   have q0:=jK wA bv 0 _ _ (0,0) HA1.out;have q0b:=jK wA bv 1 _ _ (0,0) HA1.out;simp only[jG,jI,jJ]at q0 q0b;have q2:wA.cell? ⟨bt,0,none⟩=some (.func (.yield l) #[] #[]):=jK wA bt 0 _ _ (0,0) HST.out.ct;have q3:wA.cell? ⟨bm,0,none⟩=some (.bool true):=jK wA bm 0 _ _ (0,0) HST.out.cm;have q4:=jO wA bm 0 _ _ HST.out.cm;have p0:=jK wA bn 0 _ _ (0,0) HST.out.cn;have p1:=jK wA bn 1 _ _ (0,0) HST.out.cn;have p2:=jK wA bn 2 _ _ (0,0) HST.out.cn;have f0:=jO wA bn 0 _ _ HST.out.cn;have f1:=jO wA bn 1 _ _ HST.out.cn;have f2:=jO wA bn 2 _ _ HST.out.cn;have p3:=jK wA bn 3 _ _ (0,0) HST.out.cn;have f3:=jO wA bn 3 _ _ HST.out.cn
   have hsz:w0.heap.size≤wA.heap.size:=by have:=(jL HST.out.cn);omega
   by_cases hn0:n=0
   ·have e:kEr neV f n=[.int .i32 0,.int .i32 (-1),.int .i32 (f 0).1,.string (f 0).2]:=by unfold kEr;rw[if_pos hn0]
    rw[e]at p0 p1 p2 p3;simp only[jG,jI,jJ]at p0 p1 p2 p3
    have HSt:Hid (kFc J w0 neV f l bt bn bm 1 (wA.setCell ⟨bn,1,none⟩ (.int .i32 0))):=jH (by
     refine HST.out.put HJ.out (kAe wA bn 1 _) HNe.out.1 HNe.out.2.1 h0n 1 (by rw[hn0,kFn];rfl) ?_;rw[jP wA bn 1 _ _ _ HST.out.cn,e]
     have e1:kEr neV f 1=[.int .i32 0,.int .i32 0,.int .i32 (f 0).1,.string (f 0).2]:=by unfold kEr;rw[if_neg (by omega),kFn];rfl
     rw[e1]
     rfl)
    rw[hn0]at q0 q0b
    have HE0:=jH hn0;clear hn0 e
    generalize f 0=x at*
    have hq:∀w,(binOp .neq 105 (.agg #[.int .i32 x.1,.string x.2]) (.agg #[.int .i32 x.1,.string x.2])).run Try.prog w= .ok (.bool false) w:=fun w=>by rw[kGl];simp[neV]
    have hg:=kGk #[.int .i32 x.1,.string x.2] #[.int .i32 x.1,.string x.2];go_wp2
    go_roundw
    case rel=>
     have e:64*k+(j+1)=1:=by have:=HNn.out;have:=HE0.out;omega
     refine⟨j+1,by omega,by go_num,?_⟩;rw[e];exact HSt.out
    case measure=>simp[intOf];omega
   ·obtain⟨m,rfl⟩:∃m,n=m+1:=⟨n - 1,by omega⟩
    have hlt:=kKe neV f (m+1) hn0
    have htold:=fun h=>kJy (ne:=neV) (f:=f) (n:=m+1) (N:=N) hn0 h (by rw[HN.out];exact hnN)
    have hcut:=fun h=>kHd (ne:=neV) (f:=f) (n:=m+1) hn0 h
    have hon:=fun h=>kJl (ne:=neV) (f:=f) (n:=m+1) hn0 h
    have e:kEr neV f (m+1)=[.int .i32 ((spT neV f (m+1)).2:Nat),.int .i32 (m:Nat),.int .i32 (f (spT neV f (m+1)).2).1,.string (f (spT neV f (m+1)).2).2]:=by unfold kEr;rw[if_neg hn0];rfl
    rw[e]at p0 p1 p2 p3;simp only[jG,jI,jJ]at p0 p1 p2 p3
    obtain⟨s,hs⟩:∃s,s=(spT neV f (m+1)).2:=⟨_,rfl⟩
    rw[←hs]at p0 p2 p3 hlt htold hcut hon e
    have E:=jH e;clear e
    have HSs:=jH hs;clear hs
    have hsm:(s:Int)≤(m:Int):=by omega
    have dsm:decide ((s:Int)≤(m:Int))=true:=decide_eq_true hsm
    have hms:¬(m:Int)<(s:Int):=by omega
    have dms:decide ((m:Int)<(s:Int))=false:=decide_eq_false hms
    have HTo:=jH htold;clear htold
    have HCu:=jH hcut;clear hcut
    have HOn:=jH hon;clear hon
    by_cases hne:neV (f (m+1)) (f s)=true
    ·obtain⟨t1,t2⟩:=HTo.out hne;have hcu:=HCu.out hne;obtain⟨fn,tmps,assign,body,hy,hR⟩:=HY.out _ (spT neV f (m+1)).1 ⟨s,m,f s⟩ wA HJA.out t1 t2
     have HT2:=jH (And.intro t1 t2);clear t1 t2
     have HCt:=jH hcu;clear hcu
     dsimp only[kJi]at hy
     have HRr:=jH hR;clear hR
     have hv:neV (f (m+1)) (f s)=true:=hne
     have HNe2:=jH hne;clear hne
     have HXe:Hid (f (m+1)=f (m+1)):=jH rfl;generalize hfs:f s=y at hy hv p2 p3 HRr HT2 HCt;generalize hfm:f (m+1)=x at q0 q0b hv HA1
     have HFs:=jH hfs;have HFm:=jH hfm;clear hfs hfm
     have hq:∀w,(binOp .neq 105 (.agg #[.int .i32 x.1,.string x.2]) (.agg #[.int .i32 y.1,.string y.2])).run Try.prog w= .ok (.bool true) w:=fun w=>by rw[kGl,hv]
     have hg:=kGk #[.int .i32 x.1,.string x.2] #[.int .i32 y.1,.string y.2]
     go_upto_region 5 with(fail)
     refine(wpIn_wide (n:=2)).1 ?_
     gi_wp2
     refine HRr.out.mono ?_
     rintro e W3 (⟨rfl,hJ3,hk3⟩ | ⟨rfl,hx3,hk3⟩)
     ·obtain⟨l3,ct3,cn3,cm3⟩:=HST.out.kept HR0.out hk3 hsz;rw[E.out,HFs.out]at cn3;have v3:=hk3.below HA1.out (.inl (.inr rfl));have HJ3:=jH hJ3;have x0:W3.cell? ⟨bm,0,none⟩=some (.bool true):=jK W3 bm 0 _ _ (0,0) cm3;have x1:=jO W3 bm 0 _ _ cm3;have hz3:wA.heap.size≤W3.heap.size:=hk3.size
      obtain⟨W4,hW4⟩:∃W4,W4=W3.setCell ⟨bm,0,none⟩ (.bool true):=⟨_,rfl⟩
      have oth4:∀k,k≠bm→W4.heap[k]? =W3.heap[k]? :=fun k hk=>by rw[hW4];exact jQ W3 ⟨bm,0,none⟩ k _ hk
      have cm4:W4.heap[bm]? =some (.cells #[.bool true] 4 (0,0)):=by rw[hW4,jP W3 bm 0 _ _ _ cm3];rfl
      have cn4:=(oth4 bn (fun h=>HNe.out.2.1 h.symm)).trans cn3;have HJ4:=jH (HJ.out _ _ _ _ _ hJ3 (show Off _ W3 W4 from by rw[hW4];exact Off.of_grown (kAe W3 bm 0 _) (fun k e=>by cases e;exact .inl (.inr (.inr rfl)))) (fun k hk=> .inl (.inl hk)));have v4:=(oth4 bv (fun h=>HBvn.out.2 h.symm)).trans v3;have y0:W4.cell? ⟨bn,0,none⟩=some (.int .i32 (s:Nat)):=jK W4 bn 0 _ _ (0,0) cn4;have y1:W4.cell? ⟨bn,1,none⟩=some (.int .i32 (m:Nat)):=jK W4 bn 1 _ _ (0,0) cn4;have y2:W4.cell? ⟨bn,2,none⟩=some (.int .i32 y.1):=jK W4 bn 2 _ _ (0,0) cn4;have y2b:W4.cell? ⟨bn,3,none⟩=some (.string y.2):=jK W4 bn 3 _ _ (0,0) cn4;have u0:W4.cell? ⟨bv,0,none⟩=some (.int .i32 x.1):=jK W4 bv 0 _ _ (0,0) v4;have u1:W4.cell? ⟨bv,1,none⟩=some (.string x.2):=jK W4 bv 1 _ _ (0,0) v4;have y3:=jO W4 bn 0 _ _ cn4;have y4:=jO W4 bn 1 _ _ cn4;have y5:=jO W4 bn 2 _ _ cn4;have y5b:=jO W4 bn 3 _ _ cn4;have y6:W4.cell? ⟨bm,0,none⟩=some (.bool true):=jK W4 bm 0 _ _ (0,0) cm4;have HW4:=jH hW4;have HX:=jH (And.intro l3 (And.intro ct3 (And.intro cn4 cm4)));have HO4:=jH oth4;clear hy q0 q0b q2 q3 q4 p0 p1 p2 p3 f0 f1 f2 f3 hJ3 hk3 cn4 cm4 l3 ct3 cn3 cm3 v3 v4 hW4 oth4 hq hg
      gi_wp2
      rw[←HW4.out];clear x0 x1
      go_upto_region 9 with(fail)
      obtain⟨W5,hW5⟩:∃W5,W5=(((W4.setCell ⟨bn,0,none⟩ (.int .i32 ((m:Int)+1))).setCell ⟨bn,1,none⟩ (.int .i32 0)).setCell ⟨bn,2,none⟩ (.int .i32 x.1)).setCell ⟨bn,3,none⟩ (.string x.2):=⟨_,rfl⟩
      obtain⟨cn5,hg5⟩:=kMs HX.out.2.2.1 (.int .i32 ((m:Int)+1)) (.int .i32 0) (.int .i32 x.1) (.string x.2);rw[←hW5]at cn5 hg5;have cn6:=jP W5 bn 1 _ _ (.int .i32 ((m:Int)+1)) cn5;have hg6:=kAm hg5 (kAe W5 bn 1 (.int .i32 ((m:Int)+1)));have z0:W5.cell? ⟨bn,0,none⟩=some (.int .i32 ((m:Int)+1)):=jK W5 bn 0 _ _ (0,0) cn5;have z1:W5.cell? ⟨bn,1,none⟩=some (.int .i32 0):=jK W5 bn 1 _ _ (0,0) cn5;have z4:=jO W5 bn 1 _ _ cn5
      have HC6:=jH cn6;have HG6:=jH hg6
      rw[←hW5];clear y0 y1 y2 y2b y3 y4 y5 y5b y6 u0 u1 cn5 cn6 hg5 hg6 hW5
      have d1:(0:Int)<(m:Int)+1:=by omega
      have d2:decide ((0:Int)<(m:Int)+1)=true:=decide_eq_true d1;go_wp2
      go_roundw
      case rel=>
       have e:64*k+(j+1)=m+1+1:=by have:=HNn.out;omega
       refine⟨j+1,by omega,by go_num,?_⟩;rw[e]
       have oth:∀k,k<W4.heap.size→k≠bn→(W5.setCell ⟨bn,1,none⟩ (.int .i32 ((m:Int)+1))).heap[k]? =W4.heap[k]? :=fun k hk hne=>HG6.out.block k hk (fun e=>hne (by simpa using e))
       have hl4:bm<W4.heap.size:=(jL HX.out.2.2.2)
       have hbt:W4.heap[bt]? =_:=(HO4.out bt HNe.out.2.2).trans HX.out.2.1
       refine⟨?_,fun k hk=> ?_,?_,?_,?_⟩
       ·rw[HCt.out];exact HJ.out _ _ _ _ _ HJ4.out (Off.of_grown HG6.out (fun k e=>by cases e;exact .inr (.inl rfl))) (kB4.refl _ _ _)
       ·rw[oth k (by omega) (by omega),HO4.out k (by omega)];exact HX.out.1 k hk
       ·exact(oth bt (jL hbt) HNe.out.1).trans hbt
       ·have e2:kEr neV f (m+1+1)=[.int .i32 ((m+1:Nat):Int),.int .i32 ((m+1:Nat):Int),.int .i32 x.1,.string x.2]:=by
         unfold kEr;rw[if_neg (by omega),HCt.out,HFm.out]
         rfl
        rw[e2];have:=HC6.out;simp only[List.setIfInBounds_toArray,List.set_cons_succ,List.set_cons_zero]at this;exact this
       ·exact(oth bm hl4 HNe.out.2.1).trans HX.out.2.2.2
      case measure=>simp[intOf];omega
     ·have cm3:=hk3.below HST.out.cm (.inl (.inl (.inr (.inr rfl))));have x0:W3.cell? ⟨bm,0,none⟩=some (.bool true):=jK W3 bm 0 _ _ (0,0) cm3;have x1:=jO W3 bm 0 _ _ cm3
      have cm4:(W3.setCell ⟨bm,0,none⟩ (.bool false)).heap[bm]? =some (.cells #[.bool false] 4 (0,0)):=by rw[jP W3 bm 0 _ _ _ cm3];rfl
      have x2:(W3.setCell ⟨bm,0,none⟩ (.bool false)).cell? ⟨bm,0,none⟩=some (.bool false):=jK _ bm 0 _ _ (0,0) cm4;have HCm:=jH cm4;have HXf:=jH (HJx.out _ _ _ _ _ hx3 (Off.of_grown (kAe W3 bm 0 (.bool false)) (fun k e=>by cases e;exact .inl (.inr (.inr rfl)))) (kB4.refl _ _ _));clear hy q0 q0b q2 q3 q4 p0 p1 p2 p3 f0 f1 f2 f3 hq hg hx3 hk3 cm3 cm4
      gi_wp2
      go_wp2
      go_ret
      refine .inr ⟨rfl,⟨fun k=>(k=bt∨k=bn∨k=bm)∨k=bv,_,Nat.succ_pos _,HT2.out.1,?_⟩,HCm.out⟩;rw[←HT2.out.2];exact HXf.out
    ·have hv:neV (f (m+1)) (f s)=false:=eq_false_of_ne_true hne;have hc:=HOn.out hne
     have HSt:Hid (kFc J w0 neV f l bt bn bm (m+1+1) (wA.setCell ⟨bn,1,none⟩ (.int .i32 ((m:Int)+1)))):=jH (by
      refine HST.out.put HJ.out (kAe wA bn 1 _) HNe.out.1 HNe.out.2.1 h0n (m+1+1) (by rw[hc]) ?_;rw[jP wA bn 1 _ _ _ HST.out.cn,E.out]
      have e1:kEr neV f (m+1+1)=[.int .i32 (s:Nat),.int .i32 ((m+1:Nat):Int),.int .i32 (f s).1,.string (f s).2]:=by unfold kEr;rw[if_neg (by omega),hc,←HSs.out];rfl
      rw[e1]
      rfl)
     clear hc hne;generalize f s=y at hv p2 p3;generalize f (m+1)=x at q0 q0b hv HA1
     have hq:∀w,(binOp .neq 105 (.agg #[.int .i32 x.1,.string x.2]) (.agg #[.int .i32 y.1,.string y.2])).run Try.prog w= .ok (.bool false) w:=fun w=>by rw[kGl,hv]
     have hg:=kGk #[.int .i32 x.1,.string x.2] #[.int .i32 y.1,.string y.2];go_wp2
     go_roundw
     case rel=>
      have e:64*k+(j+1)=m+1+1:=by have:=HNn.out;omega
      refine⟨j+1,by omega,by go_num,?_⟩;rw[e];exact HSt.out
     case measure=>simp[intOf];omega
  ·obtain rfl:j=64:=by omega
   have HS6:Hid (kFc J w0 neV f l bt bn bm (64*(k+1)) wr):=jH HST.out;go_wp2
   go_ret
   exact .inl ⟨rfl,HS6.out⟩
theorem kC7 (w0:World)(g:Nat)(T:kAy El)(hk:kA5 T)(h0:0<T.low.length)(ht:kAj val8 243 128 w0 g T)(b:Nat)(R:Nat→Prop)(w:World)(hw:kHt w0 w)(hs:w0.heap.size≤w.heap.size)(hR0:∀k,k<w0.heap.size→R k)(hR1:R b)
  (c1:w.cell? ⟨b,0,none⟩=some (.pointer (some ⟨g,0,none⟩)))(N:Nat)(hN:N=1114112):
  kM6 Try.prog 147 #[.pointer (some ⟨b,0,none⟩)] kJi R (fun xs=>xs=spL neV (kAl ((0:Int),ByteArray.empty) T) N) (fun pre=>∃q,0<q∧q≤(spL neV (kAl ((0:Int),ByteArray.empty) T) N).length∧pre=(spL neV (kAl ((0:Int),ByteArray.empty) T) N).take q) (spL neV (kAl ((0:Int),ByteArray.empty) T) N).length w:=by
 intro l J Jx W hW hJ hJx hY h1;refine callsIn_wide.2 ?_;have HY:Hid (SpY J Jx R (spL neV (kAl ((0:Int),ByteArray.empty) T) N) l):=jH (fun T pre x W1 hj hlen htk=>hY T pre x W1 hj hlen ⟨pre.length+1,Nat.succ_pos _,hlen,htk⟩);have HJ:=jH hJ;have HJx:=jH hJx;have hWl:kHt w0 W:=hw.of_below hs hW;have hWs:w0.heap.size≤W.heap.size:=Nat.le_trans hs hW.size;have d1:=(hW.cell (p:=⟨b,0,none⟩) (World.block_lt_of_cell? w _ c1)).trans c1;have hbl:b<W.heap.size:=World.block_lt_of_cell? W ⟨b,0,none⟩ d1
 obtain⟨bt,hbt⟩:∃bt,bt=W.heap.size:=⟨_,rfl⟩
 have hB1:=(Below.refl _ W).alloc jR (.cells #[.func (.yield l) #[] #[]] 259);have hA1:=jN W (.cells #[.func (.yield l) #[] #[]] 259);have hz1:=World.size_alloc W (.cells #[.func (.yield l) #[] #[]] 259);have HW1:Hid (∃w1,W.alloc (.cells #[.func (.yield l) #[] #[]] 259)=w1):=jH ⟨_,rfl⟩;obtain⟨w1,hw1⟩:=HW1.out;clear HW1;rw[hw1]at hB1 hA1 hz1;have e1:w1.cell? ⟨b,0,none⟩=some (.pointer (some ⟨g,0,none⟩)):=(hB1.cell (p:=⟨b,0,none⟩) (by show b<_;omega)).trans d1;have HT1:=jH (kBn w1 g T hk h0 ((hWl.of_below hWs hB1).trie ht));have HAt:=jH (kDh w1 g T hk h0 ((hWl.of_below hWs hB1).trie ht) 0 (by omega) (by omega));rw[show kDe 0=0 from rfl]at HAt
 obtain⟨y0,hy0⟩:∃y0,y0=kAl ((0:Int),ByteArray.empty) T 0:=⟨_,rfl⟩
 rw[←hy0]at HAt
 have HY0:=jH hy0;clear hy0
 have HBl:=jH (fun(w2:World) (bn:Nat) (hbn:bt<bn)=>kEi w0 g T hk h0 ht 149 #[.pointer (some ⟨bn,0,none⟩),.pointer (some ⟨bt,0,none⟩),.pointer (some ⟨bn+1,0,none⟩)]
  (fun k W=>kFc J w0 neV (kAl ((0:Int),ByteArray.empty) T) l bt (bn) (bn+1) (64*k) W) (fun W'=>(∃T' q,0<q∧q≤(spL neV (kAl ((0:Int),ByteArray.empty) T) N).length∧Jx T' ((spL neV (kAl ((0:Int),ByteArray.empty) T) N).take q) W')∧W'.heap[bn+1]? =some (.cells #[.bool false] 4 (0,0))) w2 (enters_of Try.func149 (by kernel_rfl) rfl)
  (fun k W h=>h.lies) (fun k W b' o' hk' hst hr=>kFa J Jx R w0 (kAl ((0:Int),ByteArray.empty) T) l bt (bn) (bn+1) k N hN W b' o' (kBd T k) hk' (kBc hk k hk') (fun j hj=>kBs ((0:Int),ByteArray.empty) T k j hj) hJ hJx HY.out hR0 (by omega) (by omega) (by omega) (by omega) (by omega) hr hst))
 have HN:=jH hN;have HW1:=jH (And.intro hWl (And.intro hB1 (And.intro hA1 h1)));have HSz:=jH (And.intro hWs hbt);have HH:=jH hw1;have hb1:W.heap.size=bt:=hbt.symm
 have hz1':w1.heap.size=bt+1:=by rw[hz1,hb1]
 have E1:=jH e1;clear hJ hJx hY h1 hW hWl hWs d1 hbl hB1 hA1 e1 hR0 hR1 c1 hN hs hw ht hk h0 hbt hw1 hz1
 go_enter Try.func147,Try.ntmps147
 go_upto_region 1 with(fail)
 rw[HH.out];have e1:=E1.out
 go_wp2_with fail
 refine HT1.out.mono ?_;rintro e w1' ⟨rfl,h1'⟩;subst h1';clear HT1
 go_wp2_with fail
 refine HAt.out.mono ?_;rintro e w2 ⟨rfl,hB2⟩;have HBd:=jH hB2;have e2:w2.cell? ⟨b,0,none⟩=some (.pointer (some ⟨g,0,none⟩)):=(hB2.cell (p:=⟨b,0,none⟩) (World.block_lt_of_cell? w1 _ e1)).trans e1
 obtain⟨bn,hbn⟩:∃bn,bn=w2.heap.size:=⟨_,rfl⟩
 have hlt:bt<bn:=by have:=hB2.size;omega
 have hz2:w2.heap.size=bn:=hbn.symm;clear e1 HAt hz1' hB2 hbn;have hB3:=(Below.refl _ w2).alloc jR (.cells #[.int .i32 0,.int .i32 (-1),.int .i32 y0.1,.string y0.2] 199);have hA3:=jN w2 (.cells #[.int .i32 0,.int .i32 (-1),.int .i32 y0.1,.string y0.2] 199);have hz3:=World.size_alloc w2 (.cells #[.int .i32 0,.int .i32 (-1),.int .i32 y0.1,.string y0.2] 199)
 obtain⟨w3,hw3⟩:∃w3,w3=w2.alloc (.cells #[.int .i32 0,.int .i32 (-1),.int .i32 y0.1,.string y0.2] 199):=⟨_,rfl⟩
 rw[←hw3]at hB3 hA3 hz3;have hB4:=(Below.refl _ w3).alloc jR (.cells #[.bool true] 4);have hA4:=jN w3 (.cells #[.bool true] 4);have hz4:=World.size_alloc w3 (.cells #[.bool true] 4)
 obtain⟨w4,hw4⟩:∃w4,w4=w3.alloc (.cells #[.bool true] 4):=⟨_,rfl⟩
 rw[←hw4]at hB4 hA4 hz4;have hB24:=hB3.trans (hB4.mono (by omega));have hB14:=HBd.out.trans (hB24.mono HBd.out.size)
 have HS4:Hid (kFc J w0 neV (kAl ((0:Int),ByteArray.empty) T) l bt (bn) (bn+1) (64*0) w4):=jH (by
  obtain⟨hWl,hB1,hA1,h1⟩:=HW1.out;have hb4:Below W.heap.size W w4:=hB1.trans (hB14.mono hB1.size)
  refine⟨HJ.out _ _ _ _ _ h1 (Off.of_below hb4) (fun k hk=> .inr (by rcases hk with hk | hk | hk<;>omega)),hWl.of_below HSz.out.1 hb4,?_,?_,?_⟩
  ·rw[hb1]at hA1;exact(hB14.block _ (by have:=(jL hA1);omega)).trans hA1
  ·rw[hz2]at hA3
   have e:kEr neV (kAl ((0:Int),ByteArray.empty) T) (64*0)=[.int .i32 0,.int .i32 (-1),.int .i32 y0.1,.string y0.2]:=by rw[HY0.out];rfl
   rw[e];exact(hB4.block _ (by omega)).trans hA3
  ·rw[hz3,hz2]at hA4
   exact hA4)
 have e4:w4.cell? ⟨b,0,none⟩=some (.pointer (some ⟨g,0,none⟩)):=(hB24.cell (p:=⟨b,0,none⟩) (World.block_lt_of_cell? w2 _ e2)).trans e2;unfold val8;have HW3:=jH (And.intro hw3 hw4);have HE4:=jH e4
 have hz3':w3.heap.size=bn+1:=by rw[hz3,hz2]
 have HZ:=jH (And.intro hz2 hz3');clear hB3 hA3 hz3 hB4 hA4 hz4 hB24 hB14 e4 hw3 hw4 hz2 hz3'
 go_upto_region 4 with(fail)
 rw[←HW3.out.1,←HW3.out.2,HZ.out.1];have e4:=HE4.out;clear e2
 go_wp2_with fail
 refine(HBl.out w4 bn hlt HS4.out).mono ?_;clear HBl e4
 rintro e w5 ⟨⟨u,rfl⟩,(h5 | ⟨⟨T',q,hq0,hql,hx5⟩,hm5⟩)⟩
 ·rw[show 64*17408=N by rw[HN.out]]at h5
  have hN0:N≠0:=by rw[HN.out];omega
  have e:kEr neV (kAl ((0:Int),ByteArray.empty) T) N=[.int .i32 ((spT neV (kAl ((0:Int),ByteArray.empty) T) N).2:Nat),.int .i32 ((N - 1:Nat):Int),.int .i32 (kAl ((0:Int),ByteArray.empty) T (spT neV (kAl ((0:Int),ByteArray.empty) T) N).2).1,.string (kAl ((0:Int),ByteArray.empty) T (spT neV (kAl ((0:Int),ByteArray.empty) T) N).2).2]:=by unfold kEr;rw[if_neg hN0]
  obtain⟨fn,tmps,assign,body,hy,hR⟩:=HY.out _ (spT neV (kAl ((0:Int),ByteArray.empty) T) N).1 ⟨(spT neV (kAl ((0:Int),ByteArray.empty) T) N).2,N - 1,kAl ((0:Int),ByteArray.empty) T (spT neV (kAl ((0:Int),ByteArray.empty) T) N).2⟩ w5 h5.j (kEt neV (kAl ((0:Int),ByteArray.empty) T) N).1 (kEt neV (kAl ((0:Int),ByteArray.empty) T) N).2
  have HRr:=jH hR;clear hR
  dsimp only[kJi]at hy
  have hcn:=h5.cn;rw[e]at hcn;have q0:w5.cell? ⟨bt,0,none⟩=some (.func (.yield l) #[] #[]):=jK w5 bt 0 _ _ (0,0) h5.ct;have q1:w5.cell? ⟨bn,0,none⟩=some (.int .i32 ((spT neV (kAl ((0:Int),ByteArray.empty) T) N).2:Nat)):=jK w5 (bn) 0 _ _ (0,0) hcn;have q2:w5.cell? ⟨bn,1,none⟩=some (.int .i32 ((N - 1:Nat):Int)):=jK w5 (bn) 1 _ _ (0,0) hcn;have q3:w5.cell? ⟨bn,2,none⟩=some (.int .i32 (kAl ((0:Int),ByteArray.empty) T (spT neV (kAl ((0:Int),ByteArray.empty) T) N).2).1):=jK w5 (bn) 2 _ _ (0,0) hcn;have q3b:w5.cell? ⟨bn,3,none⟩=some (.string (kAl ((0:Int),ByteArray.empty) T (spT neV (kAl ((0:Int),ByteArray.empty) T) N).2).2):=jK w5 (bn) 3 _ _ (0,0) hcn;have q4:w5.cell? ⟨bn+1,0,none⟩=some (.bool true):=jK w5 (bn+1) 0 _ _ (0,0) h5.cm;have HLast:=jH (kEt neV (kAl ((0:Int),ByteArray.empty) T) N);have HFull:Hid ((spT neV (kAl ((0:Int),ByteArray.empty) T) N).1++[⟨(spT neV (kAl ((0:Int),ByteArray.empty) T) N).2,N - 1,kAl ((0:Int),ByteArray.empty) T (spT neV (kAl ((0:Int),ByteArray.empty) T) N).2⟩]=spL neV (kAl ((0:Int),ByteArray.empty) T) N):=jH rfl;clear h5 hcn e;generalize hgs:kAl ((0:Int),ByteArray.empty) T (spT neV (kAl ((0:Int),ByteArray.empty) T) N).2=y at q3 q3b hy HRr HLast HFull;generalize hgs2:(spT neV (kAl ((0:Int),ByteArray.empty) T) N).2=s at q1 hy HRr HLast HFull;generalize hgs3:N - 1=M at q2 hy HRr HLast HFull;clear hgs hgs2 hgs3
  go_upto_region 6 with(fail)
  refine(wpIn_wide (n:=2)).1 ?_
  gi_wp2
  refine HRr.out.mono ?_
  rintro e W3 (⟨rfl,hJ3,hk3⟩ | ⟨rfl,hx3,hk3⟩)
  ·rw[HFull.out]at hJ3;have HJ3:=jH hJ3;clear hJ3 hk3 hy q0 q1 q2 q3 q3b q4
   gi_wp2
   go_wp2
   go_end0
   exact⟨⟨_,rfl⟩,.inl ⟨_,_,rfl,HJ3.out⟩⟩
  ·rw[HLast.out.2]at hx3;have HX3:=jH hx3;clear hx3 hk3 hy q0 q1 q2 q3 q3b q4
   gi_wp2
   go_wp2
   go_end0
   exact⟨⟨_,rfl⟩,.inr ⟨_,_,⟨_,Nat.succ_pos _,HLast.out.1,rfl⟩,HX3.out⟩⟩
 ·have q4:w5.cell? ⟨bn+1,0,none⟩=some (.bool false):=jK w5 (bn+1) 0 _ _ (0,0) hm5;have HX5:=jH hx5;clear hx5 hm5;go_wp2
  go_end0
  exact⟨⟨_,rfl⟩,.inr ⟨_,_,⟨q,hq0,hql,rfl⟩,HX5.out⟩⟩
end Go.Proofs.Ytabbabkmojaoaaa.VT
