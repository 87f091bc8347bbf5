/- several texts in one: UR3A UR3B UR3 -/
import Derived.Test.YtbmphakfgoompaaGreatOU
import Derived.Test.YtbmphakfgoompaaGreatO4
set_option linter.unusedVariables false
set_option linter.unusedSimpArgs false
set_option maxRecDepth 100000
set_option maxHeartbeats 16000000
namespace Go.Proofs.YtbmphakfgoompaaGreat
open Go.RowKit
def ChB (W W':World):Prop:=Below W.heap.size W W'∨∃g k z,z<65536∧(∃cur,W.heap[g]? =some (.cells cur 29 (0,0)))∧Ch g k (kAb z) W W'
theorem Own.num {B:Nat}{W W':World}{a:Option Addr}{n c:Nat}{zs:List Nat}(h:Own B 29 W a n c (zs.map kAb))(hz:∀z∈zs,z<65536)(hc:ChB W W'):∃zs':List Nat,zs'.length=zs.length∧Own B 29 W' a n c (zs'.map kAb)∧∀z∈zs',z<65536:=by
 rcases hc with hb | ⟨g,k,z,h1, -,h3⟩
 ·exact⟨zs,rfl,h.below hb jR,hz⟩
 ·rcases h.ch h3 with h4 | ⟨-, -,h4⟩
  ·exact⟨zs,rfl,h4,hz⟩
  ·refine⟨zs.set k z,by simp,by rw[List.map_set];exact h4,fun x hx=> ?_⟩
   rcases List.mem_or_eq_of_mem_set hx with h5 | rfl
   ·exact hz x h5
   ·exact h1
theorem Own.typ {B:Nat}{E:TypeId}{W W':World}{a:Option Addr}{n c:Nat}{xs:List Value}(h:Own B E W a n c xs)(hE:E≠29)(hc:ChB W W'):Own B E W' a n c xs:=by
 rcases hc with hb | ⟨g,k,z,h1,⟨cur,h2⟩,h3⟩
 ·exact h.below hb jR
 ·rcases h.ch h3 with h4 | ⟨-,⟨cur',h5⟩, -⟩
  ·exact h4
  ·rw[h2]at h5;simp only[Option.some.injEq,Obj.cells.injEq]at h5;exact absurd h5.2.1.symm hE
theorem kFu {T:kAp Int}(hk:kBk T):(∀z∈T.top,z<65536)∧(∀z∈T.mid.flatten,z<65536)∧T.mid.flatten.length=64*T.mid.length∧T.low.flatten.length=64*T.low.length:=by
 have hm:=hk.midL;have hl:=hk.lowL
 refine⟨fun z hz=>by have:=hk.topN z hz;omega,fun z hz=> ?_,?_,?_⟩
 ·obtain⟨m,h1,h2⟩:=kK4 hz
  have:=hk.midN m h1 z h2;omega
 ·rw[List.length_flatten,List.map_congr_left (g:=fun _=>64) (fun m hm=>hk.mid m hm),List.map_const',List.sum_replicate_nat,Nat.mul_comm]
 ·rw[List.length_flatten,List.map_congr_left (g:=fun _=>64) (fun m hm=>hk.low m hm),List.map_const',List.sum_replicate_nat,Nat.mul_comm]
theorem Ow8.any {B:Nat}{W W':World}{s1 s2 s3:Value}{T:kAp Int}(h:Ow8 B W s1 s2 s3 T)(hk:kBk T)(hc:ChB W W'):∃zT zM,P8 W' s1 s2 s3 zT zM T.low.flatten:=by
 obtain⟨a1,c1,a2,c2,a3,c3,rfl,rfl,rfl,h1,h2,h3⟩:=h;rw[kCc]at h2 h3;obtain⟨n1,n2,n3,n4⟩:=kFu hk;obtain⟨zT,l1,o1,b1⟩:=h1.num n1 hc;obtain⟨zM,l2,o2,b2⟩:=h2.num n2 hc;have o3:=h3.typ (by decide) hc;have ht:=hk.top;exact⟨zT,zM,⟨a1,272,c1,a2,_,c2,a3,_,c3,rfl,rfl,rfl,by omega,by omega,n4,o1.cap,o2.cap,o3.cap,kCp o1,kCp o2,kOh o3⟩,b1,b2⟩
theorem OwJ.any {B:Nat}{W W':World}{s1 s2 s3:Value}{T:kAp Int}(h:OwJ B W s1 s2 s3 T)(hk:kBk T)(hc:ChB W W'):∃zT zM,PJ W' s1 s2 s3 zT zM T.low.flatten:=by
 obtain⟨a1,c1,a2,c2,a3,c3,rfl,rfl,rfl,h1,h2,h3⟩:=h;rw[kCc]at h2 h3;obtain⟨n1,n2,n3,n4⟩:=kFu hk;obtain⟨zT,l1,o1,b1⟩:=h1.num n1 hc;obtain⟨zM,l2,o2,b2⟩:=h2.num n2 hc;have o3:=h3.typ (by decide) hc;have ht:=hk.top;exact⟨zT,zM,⟨a1,272,c1,a2,_,c2,a3,_,c3,rfl,rfl,rfl,by omega,by omega,n4,o1.cap,o2.cap,o3.cap,kCp o1,kCp o2,kIx o3⟩,b1,b2⟩
theorem Ow8.cut {B:Nat}{W:World}{s1 s2:Value}{a:Option Addr}{n c m:Nat}{T:kAp Int}(h:Ow8 B W s1 s2 (.slice a n c) T)(hk:kBk T)(hm:n=m+1):∃zT zM zL,P8 W s1 s2 (.slice a m c) zT zM zL∧¬FromOk zT zM zL:=by
 obtain⟨⟨aT,nT,cT,aM,nM,cM,aL,nL,cL,e1,e2,e3,h4,h5,h6,h7,h8,h9,r1,r2,r3⟩,vT,vM⟩:=h.p8 hk;simp only[Value.slice.injEq]at e3;obtain⟨rfl,rfl,rfl⟩:=e3;have hl:=(kFu hk).2.2.2
 refine⟨_,_,T.low.flatten.take m,⟨⟨aT,nT,cT,aM,nM,cM,a,m,c,e1,e2,rfl,h4,h5,by rw[List.length_take];omega,h7,h8,⟨by omega,h9.2⟩,r1,r2,fun i hi=> ?_⟩,vT,vM⟩,fun hok=> ?_⟩
 ·rw[List.length_take]at hi;obtain⟨b,o,e,hc⟩:=r3 i (by omega);exact⟨b,o,e,by rw[hc,List.getElem_take]⟩
 ·have h1:=hok.l64;rw[List.length_take]at h1;omega
theorem OwJ.nil {B:Nat}{W:World}{s1 s2 s3:Value}{T:kAp Int}(h:OwJ B W s1 s2 s3 T)(hk:kBk T):∃zT zM zL,PJ W (.slice none 0 0) s2 s3 zT zM zL∧¬VJ.FromOk zT zM zL:=by
 obtain⟨⟨aT,nT,cT,aM,nM,cM,aL,nL,cL,e1,e2,e3,h4,h5,h6,h7,h8,h9,r1,r2,r3⟩,vT,vM⟩:=h.pJ hk;exact⟨[],_,_,⟨⟨none,0,0,aM,nM,cM,aL,nL,cL,rfl,e2,e3,rfl,h5,h6,⟨Nat.le_refl _,Nat.zero_le _⟩,h8,h9,fun i hi=>absurd hi (by simp),r2,r3⟩,fun z hz=>by simp at hz,vM⟩,fun hok=>by have:=hok.t;simp at this⟩
theorem OwJ.more {B:Nat}{W W':World}{s1 s3:Value}{a:Option Addr}{n c:Nat}{a':Option Addr}{c':Nat}{T:kAp Int}(h:OwJ B W s1 (.slice a n c) s3 T)(hk:kBk T)(hc:ChB W W')(ho:Own B 29 W' a' (n+1) c' (T.mid.flatten.map kAb++[.int .u16 0])):∃zT zM zL,PJ W' s1 (.slice a' (n+1) c') s3 zT zM zL∧¬VJ.FromOk zT zM zL:=by
 obtain⟨a1,c1,a2,c2,a3,c3,rfl,e2,rfl,h1,h2,h3⟩:=h;simp only[Value.slice.injEq]at e2;obtain⟨rfl,rfl,rfl⟩:=e2;rw[kCc]at h2 h3;obtain⟨n1,n2,n3,n4⟩:=kFu hk;obtain⟨zT,l1,o1,b1⟩:=h1.num n1 hc;have o3:=h3.typ (by decide) hc;have ht:=hk.top
 have e9:T.mid.flatten.map kAb++[.int .u16 0]=(T.mid.flatten++[0]).map kAb:=by rw[List.map_append];rfl
 rw[e9]at ho
 refine⟨zT,T.mid.flatten++[0],T.low.flatten,⟨⟨a1,272,c1,a',_,c',a3,_,c3,rfl,rfl,rfl,by omega,by rw[List.length_append];simp only[List.length_cons,List.length_nil];omega,n4,o1.cap,ho.cap,o3.cap,kCp o1,kCp ho,kIx o3⟩,b1,fun z hz=> ?_⟩,fun hok=> ?_⟩
 ·rcases List.mem_append.1 hz with hz | hz
  ·exact n2 z hz
  ·rw[List.mem_singleton.1 hz];omega
 ·have h1:=hok.m64;rw[List.length_append]at h1;simp only[List.length_cons,List.length_nil]at h1;omega
theorem OwJ.far {B:Nat}{W:World}{s2 s3:Value}{g n c k:Nat}{T:kAp Int}(h:OwJ B W (.slice (some ⟨g,0,none⟩) n c) s2 s3 T)(hk:kBk T)(hkn:k<272)(hc:ChB W (W.setCell ⟨g,k,none⟩ (.int .u16 9999))):∃zT zM zL,PJ (W.setCell ⟨g,k,none⟩ (.int .u16 9999)) (.slice (some ⟨g,0,none⟩) n c) s2 s3 zT zM zL∧¬VJ.FromOk zT zM zL:=by
 obtain⟨a1,c1,a2,c2,a3,c3,e1,rfl,rfl,h1,h2,h3⟩:=h;simp only[Value.slice.injEq]at e1;obtain⟨rfl,rfl,rfl⟩:=e1;rw[kCc]at h2 h3;obtain⟨n1,n2,n3,n4⟩:=kFu hk;obtain⟨zM,l2,o2,b2⟩:=h2.num n2 hc;have o3:=h3.typ (by decide) hc;have ht:=hk.top;have hm:=hk.midL
 have o1:Own B 29 (W.setCell ⟨g,k,none⟩ (.int .u16 9999)) (some ⟨g,0,none⟩) 272 c ((T.top.set k 9999).map kAb):=by
  rw[List.map_set];exact(World.ownsRow.stored h1 k (.int .u16 9999)).1
 refine⟨T.top.set k 9999,zM,T.low.flatten,⟨⟨some ⟨g,0,none⟩,272,c,a2,_,c2,a3,_,c3,rfl,rfl,rfl,by rw[List.length_set];omega,by omega,n4,o1.cap,o2.cap,o3.cap,kCp o1,kCp o2,kIx o3⟩,fun z hz=> ?_,b2⟩,fun hok=> ?_⟩
 ·rcases List.mem_or_eq_of_mem_set hz with h5 | rfl
  ·exact n1 z h5
  ·omega
 ·have h1:=VJ.numsF_lt (Nat.zero_le _) hok.nt 9999 (List.mem_iff_getElem?.2 ⟨k,List.getElem?_set_self (by omega)⟩);rw[l2,n3]at h1;omega
theorem kP6 {W:World}{B g n c k:Nat}{xs:List Value}(h:Own B 29 W (some ⟨g,0,none⟩) n c xs)(z:Nat)(hz:z<65536):ChB W (W.setCell ⟨g,k,none⟩ (kAb z)):=
 .inr ⟨g,k,z,hz,Any.ty ⟨xs,h⟩,fun x hx hne=>jQ W ⟨g,k,none⟩ x (kAb z) (fun e=>hne e),fun cur ty e=>jP W g k cur ty _ e⟩
end Go.Proofs.YtbmphakfgoompaaGreat

namespace Go.Proofs.YtbmphakfgoompaaGreat
open Go.RowKit
theorem kS0 {α:Type}(l:List α)(n:Nat)(u:α)(h:n<l.length):l.take n++[u]++l.drop (n+1)=l.set n u:=by
 rw[List.set_eq_take_append_cons_drop,if_pos h];simp
theorem kM1 {P:Program}{t e:TypeId}{z:Value}{bytes:Nat}(el:kKx P t e z bytes){w:World}{ops:Array Oper}{rest:List Oper}{o:Oper}{act:Act}{Q:Exit→Act→World→Prop}(hgd:o.guard=none)(s x:Operand)
  (ho:o.op= .call {callee:= .builtin .append,args:= #[s,x],argTypes:= #[t,t]}){B:Nat}{a:Option Addr}{n cap:Nat}{xs:List Value}(hown:Own B e w a n cap xs)(hB:B≤w.heap.size)(hn0:0<n)(hn:(n+1)*bytes≤140737488355328)(hm:n<140737488355328)(u:Value)(hu:u.oneCell'=true)(e':TypeId)
  (hs:act.eval s= .slice a n cap)(hx:act.eval x= .slice (some ⟨w.heap.size,0,none⟩) 1 1)
  (h:∀a' cap' w',Own B e w' a' (n+1) cap' (xs++[u])→(w.alloc (.cells #[u] e')).grownBy w' (Value.slice a n cap).ownBlock→(Below (w.alloc (.cells #[u] e')).heap.size (w.alloc (.cells #[u] e')) w'∨∃g,(∃cur,(w.alloc (.cells #[u] e')).heap[g]? =some (.cells cur e (0,0)))∧Ch g n u (w.alloc (.cells #[u] e')) w')→wpList P ops Q rest (act.put o.dst (.slice a' (n+1) cap')) w'):
  wpList P ops Q (o :: rest) act (w.alloc (.cells #[u] e')):=by
 obtain⟨i,hi,hz,h1,hb⟩:=info_parts el.inf
 refine wpList_plain hgd fun K hK'=> ?_
 have hcell:∀j v,[u][j]? =some v→(w.alloc (.cells #[u] e')).cell? ((⟨w.heap.size,0,none⟩:Addr).add j)=some v:=by
  intro j v hv
  have hj:j=0:=by
   have:=(List.getElem?_eq_some_iff.1 hv).1
   simp at this;exact this
  subst hj
  simp at hv;subst hv
  rw[show((⟨w.heap.size,0,none⟩:Addr).add 0)=⟨w.heap.size,0,none⟩from by simp[Addr.add]];rw[jK (w.alloc (.cells #[u] e')) w.heap.size 0 #[u] e' (0,0) (jN w _)]
  rfl
 have hown':=World.ownsRow.alloc hown (.cells #[u] e');obtain⟨v',w',hr,h2,h3,h4⟩:=kGp (P:=P) (w.alloc (.cells #[u] e')) B t o.type e i z 1 bytes el.und hi hz h1 hb el.one (by decide) _ n xs hown' ⟨w.heap.size,0,none⟩ 1 1 [u] rfl hcell (by intro v hv;simp at hv;subst hv;exact hu) (by simp only[maxLen];omega) hn (by simp;omega);unfold Oper.wp execOp;simp only[ho,resolve,invoke,builtin,Sem.run_bind,Sem.run_pure,Result.andThen_ok,List.map_toArray,List.map_cons,List.map_nil,hs,hx,hr]
 have hv':∃a' cap',v'= .slice a' (n+1) cap':=by
  rcases h2.2 with⟨rfl,h0⟩ | ⟨g,cap',cur,rfl,_⟩
  ·omega
  ·exact⟨_,_,rfl⟩
 obtain⟨a',cap',rfl⟩:=hv';refine hK' _ _ (h a' cap' w' h2 h3 ?_)
 rcases hown'.2 with⟨-,h0⟩ | ⟨g,cap0,cur,e0,hbg,hgg,hnc,hcm,hcs,htake⟩
 ·omega
 ·simp only[Value.slice.injEq]at e0;obtain⟨rfl, -,rfl⟩:=e0
  by_cases hroom:n+1≤cap
  ·have hr2:=run_append_room (P:=P) (w.alloc (.cells #[u] e')) t o.type e i el.und hi g n cap cur hgg ⟨w.heap.size,0,none⟩ 1 1 [u] (by rw[h1];rfl) hcell (by intro v hv;simp at hv;subst hv;exact hu) hroom (by rw[hcs,h1];simp;omega);rw[hr2]at hr;simp only[Result.ok.injEq]at hr;obtain⟨-,rfl⟩:=hr;refine .inr ⟨g,⟨cur,hgg⟩,fun x hx hne=>setRow_other _ g x _ hne,fun cur' ty hc=> ?_⟩;rw[hgg]at hc;simp only[Option.some.injEq,Obj.cells.injEq,and_true]at hc;obtain⟨rfl,rfl⟩:=hc;rw[setRow_heap _ g cur _ e _ hgg,h1,Nat.mul_one]
   have e9:(cur.toList.take n++[u]++cur.toList.drop (n+[u].length)).toArray=cur.setIfInBounds n u:=by
    apply Array.toList_inj.1
    rw[Array.toList_setIfInBounds];exact kS0 cur.toList n u (by rw[Array.length_toList,hcs];omega)
   rw[e9]
  ·have holds:∀j v,xs[j]? =some v→(w.alloc (.cells #[u] e')).cell? ((⟨g,0,none⟩:Addr).add j)=some v:=World.ownsRow.cells hown' (g:=g) rfl;have hr2:=run_append_grow (P:=P) (w.alloc (.cells #[u] e')) t o.type e i z el.und hi hz ⟨g,0,none⟩ n cap xs (by rw[h1];exact hown'.1) holds ⟨w.heap.size,0,none⟩ 1 1 [u] (by rw[h1];rfl) hcell (by omega) (by omega) (growslice_fits (by omega) (by rw[hb];exact hn));rw[hr2]at hr;simp only[Result.ok.injEq]at hr;obtain⟨-,rfl⟩:=hr;have hdr:Below (w.alloc (.cells #[u] e')).heap.size (w.alloc (.cells #[u] e')) (w.alloc (.cells #[u] e')).drew:=(Below.refl _ _).drew;exact .inl (hdr.alloc hdr.size _)
end Go.Proofs.YtbmphakfgoompaaGreat

namespace Go.Proofs.YtbmphakfgoompaaGreat
open Go.RowKit
attribute [local go_sem] Oper.semAt_some
def kIj (w:World) (s0 s1 s2 s3 s4 s5 s6 s7 s8 s9 s10 s11:Value):Prop:=∃C Bk T M:Pt,P8 w s0 s1 s2 C.top C.mid C.low∧PJ w s3 s4 s5 Bk.top Bk.mid Bk.low∧PJ w s6 s7 s8 T.top T.mid T.low∧PJ w s9 s10 s11 M.top M.mid M.low∧¬(C.ok8∧Bk.okJ∧T.okJ∧M.okJ)
theorem P8.kept {w w':World}{s1 s2 s3:Value}{zT zM:List Nat}{zL:List Int}(h:P8 w s1 s2 s3 zT zM zL){b:Nat}{cs:Array Value}{ty:TypeId}(hb:w.heap[b]? =some (.cells cs ty (0,0)))(hn:kEg cs)(j:Nat)(u:Value)(hw:w'=w.setCell ⟨b,j,none⟩ u):P8 w' s1 s2 s3 zT zM zL:=by
 subst hw
 have hx:∀(g i:Nat) (k:IntKind) (z:Int),w.cell? ⟨g,i,none⟩=some (.int k z)→(w.setCell ⟨b,j,none⟩ u).cell? ⟨g,i,none⟩=some (.int k z):=fun g i k z e=>by
  by_cases e2:g=b
  ·subst e2;rw[jK w g i cs ty (0,0) hb]at e;exact absurd rfl (hn i _ e k z)
  ·rw[World.cell?_of_block (w:=w) (a:=⟨g,i,none⟩) (jQ w ⟨b,j,none⟩ g u e2)];exact e
 obtain⟨⟨aT,nT,cT,aM,nM,cM,aL,nL,cL,e1,e2,e3,h4,h5,h6,h7,h8,h9,r1,r2,r3⟩,vT,vM⟩:=h;exact⟨⟨aT,nT,cT,aM,nM,cM,aL,nL,cL,e1,e2,e3,h4,h5,h6,h7,h8,h9,fun i hi=>by obtain⟨g,o,e,hc⟩:=r1 i hi;exact⟨g,o,e,hx _ _ _ _ hc⟩,fun i hi=>by obtain⟨g,o,e,hc⟩:=r2 i hi;exact⟨g,o,e,hx _ _ _ _ hc⟩,fun i hi=>by obtain⟨g,o,e,hc⟩:=r3 i hi;exact⟨g,o,e,hx _ _ _ _ hc⟩⟩,vT,vM⟩
theorem PJ.kept {w w':World}{s1 s2 s3:Value}{zT zM:List Nat}{zL:List Int}(h:PJ w s1 s2 s3 zT zM zL){b:Nat}{cs:Array Value}{ty:TypeId}(hb:w.heap[b]? =some (.cells cs ty (0,0)))(hn:kEg cs)(j:Nat)(u:Value)(hw:w'=w.setCell ⟨b,j,none⟩ u):PJ w' s1 s2 s3 zT zM zL:=by
 subst hw
 have hx:∀(g i:Nat) (k:IntKind) (z:Int),w.cell? ⟨g,i,none⟩=some (.int k z)→(w.setCell ⟨b,j,none⟩ u).cell? ⟨g,i,none⟩=some (.int k z):=fun g i k z e=>by
  by_cases e2:g=b
  ·subst e2;rw[jK w g i cs ty (0,0) hb]at e;exact absurd rfl (hn i _ e k z)
  ·rw[World.cell?_of_block (w:=w) (a:=⟨g,i,none⟩) (jQ w ⟨b,j,none⟩ g u e2)];exact e
 obtain⟨⟨aT,nT,cT,aM,nM,cM,aL,nL,cL,e1,e2,e3,h4,h5,h6,h7,h8,h9,r1,r2,r3⟩,vT,vM⟩:=h;exact⟨⟨aT,nT,cT,aM,nM,cM,aL,nL,cL,e1,e2,e3,h4,h5,h6,h7,h8,h9,fun i hi=>by obtain⟨g,o,e,hc⟩:=r1 i hi;exact⟨g,o,e,hx _ _ _ _ hc⟩,fun i hi=>by obtain⟨g,o,e,hc⟩:=r2 i hi;exact⟨g,o,e,hx _ _ _ _ hc⟩,fun i hi=>by obtain⟨g,o,e,hc⟩:=r3 i hi;exact⟨g,o,e,hx _ _ _ _ hc⟩⟩,vT,vM⟩
theorem kIj.kept {w:World}{s0 s1 s2 s3 s4 s5 s6 s7 s8 s9 s10 s11:Value}(h:kIj w s0 s1 s2 s3 s4 s5 s6 s7 s8 s9 s10 s11){b:Nat}{cs:Array Value}{ty:TypeId}(hb:w.heap[b]? =some (.cells cs ty (0,0)))(hn:kEg cs)(j:Nat)(u:Value):kIj (w.setCell ⟨b,j,none⟩ u) s0 s1 s2 s3 s4 s5 s6 s7 s8 s9 s10 s11:=by
 obtain⟨C,B,T,M,h1,h2,h3,h4,h5⟩:=h;exact⟨C,B,T,M,h1.kept hb hn j u rfl,h2.kept hb hn j u rfl,h3.kept hb hn j u rfl,h4.kept hb hn j u rfl,h5⟩
theorem kJh (l:List (Option Addr×Nat×Nat)):kEg (l.map (fun p=>Value.slice p.1 p.2.1 p.2.2)).toArray:=by
 intro i v hv k z e;subst e;rw[List.getElem?_toArray,List.getElem?_map]at hv
 cases h:l[i]? with
 | none=>rw[h]at hv;cases hv
 | some p=>rw[h]at hv;cases hv
theorem kE9 {w:World}{s0 s1 s2 s3 s4 s5 s6 s7 s8 s9 s10 s11:Value}(h:kIj w s0 s1 s2 s3 s4 s5 s6 s7 s8 s9 s10 s11):Calls Tryz.prog 11 #[.agg #[s0,s1,s2,s3,s4,s5,s6,s7,s8,s9,s10,s11]] w fun e w'=>e= .returned (.tuple #[.pointer none,.int .i32 0,.int .i64 140])∧Below w.heap.size w w':=by
 obtain⟨C,B,T,M,h1,h2,h3,h4,h5⟩:=h;refine(kTe w s0 s1 s2 s3 s4 s5 s6 s7 s8 s9 s10 s11 C B T M h1 h2 h3 h4).mono ?_
 rintro e w' ⟨hb,⟨rfl, -⟩ | ⟨h6, -⟩⟩
 ·exact⟨rfl,hb⟩
 ·exact absurd h6 h5
theorem kPg {c:Code}(hcd: Tryz.f3.body.bind (kL8 106)=some c)(Q:Exit→Act→World→Prop)(V W:World)(b13:Nat)(sa0:Option Addr)(sn0 sc0:Nat)(sa1:Option Addr)(sn1 sc1:Nat)(sa2:Option Addr)(sn2 sc2:Nat)(sa3:Option Addr)(sn3 sc3:Nat)(sa4:Option Addr)(sn4 sc4:Nat)(sa5:Option Addr)(sn5 sc5:Nat)(sa6:Option Addr)(sn6 sc6:Nat)(sa7:Option Addr)(sn7 sc7:Nat)(sa8:Option Addr)(sn8 sc8:Nat)(sa9:Option Addr)(sn9 sc9:Nat)(sa10:Option Addr)(sn10 sc10:Nat)(sa11:Option Addr)(sn11 sc11:Nat)(F:Nat→Nat→Int)(M:Nat)(hM:M=17408)(sp:Nat)(hsp:0<sp∧sp<200)
  (hVW:Below V.heap.size V W)(hb13:V.heap.size≤b13)(h13:W.heap[b13]? =some (.cells #[.slice sa0 sn0 sc0,.slice sa1 sn1 sc1,.slice sa2 sn2 sc2,.slice sa3 sn3 sc3,.slice sa4 sn4 sc4,.slice sa5 sn5 sc5,.slice sa6 sn6 sc6,.slice sa7 sn7 sc7,.slice sa8 sn8 sc8,.slice sa9 sn9 sc9,.slice sa10 sn10 sc10,.slice sa11 sn11 sc11] 50 (0,0)))(hO:Ow4 V.heap.size W #[.slice sa0 sn0 sc0,.slice sa1 sn1 sc1,.slice sa2 sn2 sc2,.slice sa3 sn3 sc3,.slice sa4 sn4 sc4,.slice sa5 sn5 sc5,.slice sa6 sn6 sc6,.slice sa7 sn7 sc7,.slice sa8 sn8 sc8,.slice sa9 sn9 sc9,.slice sa10 sn10 sc10,.slice sa11 sn11 sc11] F M)
  (hQ:∀(act:Act) (W':World),act.tmps[8]? =some (.bool true)→act.defers=[]→Below V.heap.size V W'→Q .ret act W')(v0 v1 v3 v4 v5 v6 v7 v8 v9 v10 v11 v12 v14 v15 v16 v17 v18 v19 v20 v21 v22 v23 v24 v25 v26 v27 v28 v29 v30 v31 v32 v33 v34 v35 v36 v37 v38 v39 v40 v41 v42 v43 v44 v45 v46 v47 v48 v49 v50 v51 v52 v53 v54 v55 v56 v57 v58 v59 v60 v61 v62 v63 v64 v65 v66 v67 v68 v69 v70 v71 v72 v73 v74 v75 v76 v77 v78 v79 v80 v81 v82 v83 v84 v85 v86 v87 v88 v89 v90 v91 v92 v93 v94 v95 v96 v97 v98 v99 v100 v101 v102 v103 v104 v105 v106 v107 v108 v109 v110 v111 v112 v113 v114 v115 v116 v117 v118 v119 v120 v121 v122 v123 v124 v125 v126 v127 v128 v129 v130 v131 v132 v133 v134 v135 v136 v137 v138 v139 v140 v141 v142 v143 v144 v145 v146 v147 v148 v149 v150 v151 v152 v153 v154 v155 v156 v157 v158 v159 v160 v161 v162 v163 v164 v165 v166 v167 v168 v169 v170 v171 v172 v173 v174 v175 v176 v177 v178 v179 v180 v181 v182 v183 v184 v185 v186 v187 v188 v189 v190 v191 v192 v193 v194 v195 v196 v197 v198 v199 v200 v201 v202 v203 v204 v205 v206 v207 v208 v209 v210 v211 v212:Value):
  c.wp Tryz.prog Q {tmps:= #[v0,v1,.int .u16 (sp:Nat),v3,v4,v5,v6,v7,v8,v9,v10,v11,v12,.pointer (some ⟨b13,0,none⟩),v14,v15,v16,v17,v18,v19,v20,v21,v22,v23,v24,v25,v26,v27,v28,v29,v30,v31,v32,v33,v34,v35,v36,v37,v38,v39,v40,v41,v42,v43,v44,v45,v46,v47,v48,v49,v50,v51,v52,v53,v54,v55,v56,v57,v58,v59,v60,v61,v62,v63,v64,v65,v66,v67,v68,v69,v70,v71,v72,v73,v74,v75,v76,v77,v78,v79,v80,v81,v82,v83,v84,v85,v86,v87,v88,v89,v90,v91,v92,v93,v94,v95,v96,v97,v98,v99,v100,v101,v102,v103,v104,v105,v106,v107,v108,v109,v110,v111,v112,v113,v114,v115,v116,v117,v118,v119,v120,v121,v122,v123,v124,v125,v126,v127,v128,v129,v130,v131,v132,v133,v134,v135,v136,v137,v138,v139,v140,v141,v142,v143,v144,v145,v146,v147,v148,v149,v150,v151,v152,v153,v154,v155,v156,v157,v158,v159,v160,v161,v162,v163,v164,v165,v166,v167,v168,v169,v170,v171,v172,v173,v174,v175,v176,v177,v178,v179,v180,v181,v182,v183,v184,v185,v186,v187,v188,v189,v190,v191,v192,v193,v194,v195,v196,v197,v198,v199,v200,v201,v202,v203,v204,v205,v206,v207,v208,v209,v210,v211,v212],defers:=[]} W:=by
 have h2: Tryz.f3.body.bind (kL8 106)=some _:=rfl;rw[h2]at hcd;have hcd2:_=c:=Option.some.inj hcd;subst hcd2;clear h2 hcd
 have HQ:=jH hQ;have HM:=jH hM;have HVW:=jH hVW;have H13:=jH h13;have HO:=jH hO
 clear hQ hM hVW h13 hO;obtain⟨hsp1,hsp2⟩:=hsp
 have K:=fun j:Nat=>(made8 (F j) M HM.out).trie
 obtain⟨HO0,HO1,HO2,HO3⟩:Hid (Ow8 V.heap.size W (.slice sa0 sn0 sc0) (.slice sa1 sn1 sc1) (.slice sa2 sn2 sc2) (trieS (mkF (F 0) M)))∧Hid (OwJ V.heap.size W (.slice sa3 sn3 sc3) (.slice sa4 sn4 sc4) (.slice sa5 sn5 sc5) (trieS (mkF (F 1) M)))∧Hid (OwJ V.heap.size W (.slice sa6 sn6 sc6) (.slice sa7 sn7 sc7) (.slice sa8 sn8 sc8) (trieS (mkF (F 2) M)))∧Hid (OwJ V.heap.size W (.slice sa9 sn9 sc9) (.slice sa10 sn10 sc10) (.slice sa11 sn11 sc11) (trieS (mkF (F 3) M))):=by
  obtain⟨s0,s1,s2,s3,s4,s5,s6,s7,s8,s9,s10,s11,e,o1,o2,o3,o4⟩:=HO.out;simp only[Array.mk.injEq,List.cons.injEq,and_true]at e;obtain⟨rfl,rfl,rfl,rfl,rfl,rfl,rfl,rfl,rfl,rfl,rfl,rfl⟩:=e;exact⟨jH o1,jH o2,jH o3,jH o4⟩
 have HK:=jH K;clear K HO
 obtain⟨m,hm⟩:∃m:Int,m=(sp:Int) % 4:=⟨_,rfl⟩
 have hbits:bits .and .u16 (sp:Int) 3=m:=(kS5 _).trans hm.symm
 have hm4:m=0∨m=1∨m=2∨m=3:=by omega
 clear hm
 rcases hm4 with rfl | rfl | rfl | rfl
 ·have hl2:1≤sn2∧sn2≤sc2∧sn2≤1114112:=by
   obtain⟨a1,c1,a2,c2,a3,c3, -, -,e3, -, -,o3⟩:=HO0.out;simp only[Value.slice.injEq]at e3;obtain⟨rfl,rfl,rfl⟩:=e3;have h1:=(kKk (HK.out 0)).2;have h2:=(HK.out 0).lowL;exact⟨by omega,o3.cap.1,by omega⟩
  obtain⟨nl,hnl⟩:∃nl,sn2=nl+1:=⟨sn2 - 1,by omega⟩
  have HS0:Hid (kIj W (.slice sa0 sn0 sc0) (.slice sa1 sn1 sc1) (.slice sa2 nl sc2) (.slice sa3 sn3 sc3) (.slice sa4 sn4 sc4) (.slice sa5 sn5 sc5) (.slice sa6 sn6 sc6) (.slice sa7 sn7 sc7) (.slice sa8 sn8 sc8) (.slice sa9 sn9 sc9) (.slice sa10 sn10 sc10) (.slice sa11 sn11 sc11)):=jH (by
   obtain⟨zT,zM,zL,h1,h2⟩:=HO0.out.cut (HK.out 0) hnl
   exact⟨⟨zT,zM,zL⟩,⟨_,_,_⟩,⟨_,_,_⟩,⟨_,_,_⟩,h1,HO1.out.pJ (HK.out 1),HO2.out.pJ (HK.out 2),HO3.out.pJ (HK.out 3),fun h=>h2 h.1⟩)
  have hsub:((sn2:Nat):Int) - 1=(nl:Int):=by omega
  have hle1:nl≤sc2:=by omega
  have hle2:nl≤sn2:=by omega
  have hnb:nl≤1114112:=by omega
  clear hnl hl2 HO0 HO1 HO2 HO3;have y2:=jK W b13 2 _ _ (0,0) H13.out;have f2:=jO W b13 2 _ _ H13.out;simp at y2;have HS1:Hid ((W.setCell ⟨b13,2,none⟩ (.slice sa2 nl sc2)).heap[b13]? =some (.cells #[.slice sa0 sn0 sc0,.slice sa1 sn1 sc1,.slice sa2 nl sc2,.slice sa3 sn3 sc3,.slice sa4 sn4 sc4,.slice sa5 sn5 sc5,.slice sa6 sn6 sc6,.slice sa7 sn7 sc7,.slice sa8 sn8 sc8,.slice sa9 sn9 sc9,.slice sa10 sn10 sc10,.slice sa11 sn11 sc11] 50 (0,0))):=jH (jP W b13 2 _ _ (.slice sa2 nl sc2) H13.out);have HSp1:=jH (HS0.out.kept H13.out (kJh [(sa0,sn0,sc0),(sa1,sn1,sc1),(sa2,sn2,sc2),(sa3,sn3,sc3),(sa4,sn4,sc4),(sa5,sn5,sc5),(sa6,sn6,sc6),(sa7,sn7,sc7),(sa8,sn8,sc8),(sa9,sn9,sc9),(sa10,sn10,sc10),(sa11,sn11,sc11)]) 2 (.slice sa2 nl sc2));have HB1:=jH (HVW.out.setCell (p:=⟨b13,2,none⟩) hb13 (.slice sa2 nl sc2))
  go_upto_region 32 with(fail)
  clear y2 f2 hsub hle1 hle2;generalize W.setCell ⟨b13,2,none⟩ (.slice sa2 nl sc2)=W9 at*;have y0:=jK W9 b13 0 _ _ (0,0) HS1.out;have y1:=jK W9 b13 1 _ _ (0,0) HS1.out;have y2:=jK W9 b13 2 _ _ (0,0) HS1.out;have y3:=jK W9 b13 3 _ _ (0,0) HS1.out;have y4:=jK W9 b13 4 _ _ (0,0) HS1.out;have y5:=jK W9 b13 5 _ _ (0,0) HS1.out;have y6:=jK W9 b13 6 _ _ (0,0) HS1.out;have y7:=jK W9 b13 7 _ _ (0,0) HS1.out;have y8:=jK W9 b13 8 _ _ (0,0) HS1.out;have y9:=jK W9 b13 9 _ _ (0,0) HS1.out;have y10:=jK W9 b13 10 _ _ (0,0) HS1.out;have y11:=jK W9 b13 11 _ _ (0,0) HS1.out;simp at y0 y1 y2 y3 y4 y5 y6 y7 y8 y9 y10 y11;have HOv:=jH (kE9 HSp1.out)
  go_wp2_with fail
  refine HOv.out.mono ?_;rintro e w20 ⟨rfl,hb⟩;have HB20:=jH (HB1.out.trans (hb.mono HB1.out.size));clear hb HOv y0 y1 y2 y3 y4 y5 y6 y7 y8 y9 y10 y11
  go_wp2_with fail
  refine(kDa w20).mono ?_;rintro e w21 ⟨rfl,hb⟩;have HB21:=jH (HB20.out.trans (hb.mono HB20.out.size));clear hb;go_wp2
  exact HQ.out _ _ rfl rfl HB21.out
 ·have hown:Own V.heap.size 29 W sa4 sn4 sc4 ((trieS (mkF (F 1) M)).mid.flatten.map kAb)∧0<sn4∧sn4≤1114112:=by
   obtain⟨a1,c1,a2,c2,a3,c3, -,e2, -, -,o2, -⟩:=HO1.out;simp only[Value.slice.injEq]at e2;obtain⟨rfl,rfl,rfl⟩:=e2;rw[kCc]at o2;have h1:=(kKk (HK.out 1)).1;have h2:=(HK.out 1).midL;exact⟨o2,by omega,by omega⟩
  obtain⟨hown,hn4,hn4b⟩:=hown;have HOw:=jH hown;clear hown;have y4:=jK W b13 4 _ _ (0,0) H13.out;simp at y4
  go_wp2_with (at_builtin;refine kM1 Tryz.elemU16 rfl (.tmp 126) (.tmp 127) rfl HOw.out HVW.out.size hn4 (by omega) (by omega) (.int .u16 0) rfl _ rfl rfl ?_)
  intro a8 c8 w8 ho8 hg8 hc8;have hba:=(Below.refl _ W).alloc jR (.cells #[.int .u16 0] 29);have HBa:Hid (Below W.heap.size W (W.alloc (.cells #[.int .u16 0] 29))):=jH hba
  have HCb:Hid (ChB (W.alloc (.cells #[.int .u16 0] 29)) w8):=jH (by
   rcases hc8 with h | ⟨g,h1,h2⟩
   ·exact .inl (by rw[World.size_alloc];exact h)
   ·exact .inr ⟨g,sn4,0,by omega,h1,h2⟩)
  have HB8:Hid (Below V.heap.size V w8):=jH ((HVW.out.trans (hba.mono HVW.out.size)).trans (kAv hg8 (fun x e=>(World.ownsRow.lt HOw.out x e).1) (by have:=HVW.out.size;have:=hba.size;omega)))
  have H13b:Hid (w8.heap[b13]? =some (.cells #[.slice sa0 sn0 sc0,.slice sa1 sn1 sc1,.slice sa2 sn2 sc2,.slice sa3 sn3 sc3,.slice sa4 sn4 sc4,.slice sa5 sn5 sc5,.slice sa6 sn6 sc6,.slice sa7 sn7 sc7,.slice sa8 sn8 sc8,.slice sa9 sn9 sc9,.slice sa10 sn10 sc10,.slice sa11 sn11 sc11] 50 (0,0))):=jH (by
   have h1:=(hba.block b13 (jL H13.out)).trans H13.out;refine(hg8.block b13 (jL h1) (fun e=> ?_)).trans h1
   rcases HOw.out.2 with⟨-,h0⟩ | ⟨g,cap,cur,e0, -,hgg, -⟩
   ·omega
   ·rw[e0]at e;simp[Value.ownBlock]at e;subst e;rw[H13.out]at hgg
    simp at hgg)
  have HS0:Hid (kIj w8 (.slice sa0 sn0 sc0) (.slice sa1 sn1 sc1) (.slice sa2 sn2 sc2) (.slice sa3 sn3 sc3) (.slice a8 (sn4+1) c8) (.slice sa5 sn5 sc5) (.slice sa6 sn6 sc6) (.slice sa7 sn7 sc7) (.slice sa8 sn8 sc8) (.slice sa9 sn9 sc9) (.slice sa10 sn10 sc10) (.slice sa11 sn11 sc11)):=jH (by
   obtain⟨zT0,zM0,h0⟩:=(HO0.out.below HBa.out).any (HK.out 0) HCb.out;obtain⟨zT2,zM2,h2⟩:=(HO2.out.below HBa.out).any (HK.out 2) HCb.out;obtain⟨zT3,zM3,h3⟩:=(HO3.out.below HBa.out).any (HK.out 3) HCb.out;obtain⟨zT,zM,zL,h1,h4⟩:=(HO1.out.below HBa.out).more (HK.out 1) HCb.out (by rw[List.map_flatten];exact ho8)
   exact⟨⟨_,_,_⟩,⟨zT,zM,zL⟩,⟨_,_,_⟩,⟨_,_,_⟩,h0,h1,h2,h3,fun h=>h4 h.2.1⟩)
  clear HO0 HO1 HO2 HO3 HCb HOw ho8 hg8 hc8 hba HBa y4 HVW
  obtain⟨n8,hn8⟩:∃n8,n8=sn4+1:=⟨_,rfl⟩
  rw[←hn8]at HS0 ⊢;clear hn8;have y4:=jK w8 b13 4 _ _ (0,0) H13b.out;have f4:=jO w8 b13 4 _ _ H13b.out;simp at y4;have HS1:Hid ((w8.setCell ⟨b13,4,none⟩ (.slice a8 n8 c8)).heap[b13]? =some (.cells #[.slice sa0 sn0 sc0,.slice sa1 sn1 sc1,.slice sa2 sn2 sc2,.slice sa3 sn3 sc3,.slice a8 n8 c8,.slice sa5 sn5 sc5,.slice sa6 sn6 sc6,.slice sa7 sn7 sc7,.slice sa8 sn8 sc8,.slice sa9 sn9 sc9,.slice sa10 sn10 sc10,.slice sa11 sn11 sc11] 50 (0,0))):=jH (jP w8 b13 4 _ _ (.slice a8 n8 c8) H13b.out);have HSp1:=jH (HS0.out.kept H13b.out (kJh [(sa0,sn0,sc0),(sa1,sn1,sc1),(sa2,sn2,sc2),(sa3,sn3,sc3),(sa4,sn4,sc4),(sa5,sn5,sc5),(sa6,sn6,sc6),(sa7,sn7,sc7),(sa8,sn8,sc8),(sa9,sn9,sc9),(sa10,sn10,sc10),(sa11,sn11,sc11)]) 4 (.slice a8 n8 c8));have HB1:=jH (HB8.out.setCell (p:=⟨b13,4,none⟩) hb13 (.slice a8 n8 c8))
  go_upto_region 32 with(fail)
  clear y4 f4;generalize w8.setCell ⟨b13,4,none⟩ (.slice a8 n8 c8)=W9 at*;have y0:=jK W9 b13 0 _ _ (0,0) HS1.out;have y1:=jK W9 b13 1 _ _ (0,0) HS1.out;have y2:=jK W9 b13 2 _ _ (0,0) HS1.out;have y3:=jK W9 b13 3 _ _ (0,0) HS1.out;have y4:=jK W9 b13 4 _ _ (0,0) HS1.out;have y5:=jK W9 b13 5 _ _ (0,0) HS1.out;have y6:=jK W9 b13 6 _ _ (0,0) HS1.out;have y7:=jK W9 b13 7 _ _ (0,0) HS1.out;have y8:=jK W9 b13 8 _ _ (0,0) HS1.out;have y9:=jK W9 b13 9 _ _ (0,0) HS1.out;have y10:=jK W9 b13 10 _ _ (0,0) HS1.out;have y11:=jK W9 b13 11 _ _ (0,0) HS1.out;simp at y0 y1 y2 y3 y4 y5 y6 y7 y8 y9 y10 y11;have HOv:=jH (kE9 HSp1.out)
  go_wp2_with fail
  refine HOv.out.mono ?_;rintro e w20 ⟨rfl,hb⟩;have HB20:=jH (HB1.out.trans (hb.mono HB1.out.size));clear hb HOv y0 y1 y2 y3 y4 y5 y6 y7 y8 y9 y10 y11
  go_wp2_with fail
  refine(kDa w20).mono ?_;rintro e w21 ⟨rfl,hb⟩;have HB21:=jH (HB20.out.trans (hb.mono HB20.out.size));clear hb;go_wp2
  exact HQ.out _ _ rfl rfl HB21.out
 ·have HS0:Hid (kIj W (.slice sa0 sn0 sc0) (.slice sa1 sn1 sc1) (.slice sa2 sn2 sc2) (.slice sa3 sn3 sc3) (.slice sa4 sn4 sc4) (.slice sa5 sn5 sc5) (.slice none 0 0) (.slice sa7 sn7 sc7) (.slice sa8 sn8 sc8) (.slice sa9 sn9 sc9) (.slice sa10 sn10 sc10) (.slice sa11 sn11 sc11)):=jH (by
   obtain⟨zT,zM,zL,h1,h2⟩:=HO2.out.nil (HK.out 2)
   exact⟨⟨_,_,_⟩,⟨_,_,_⟩,⟨zT,zM,zL⟩,⟨_,_,_⟩,HO0.out.p8 (HK.out 0),HO1.out.pJ (HK.out 1),h1,HO3.out.pJ (HK.out 3),fun h=>h2 h.2.2.1⟩)
  clear HO0 HO1 HO2 HO3;have y6:=jK W b13 6 _ _ (0,0) H13.out;have f6:=jO W b13 6 _ _ H13.out;simp at y6;have HS1:Hid ((W.setCell ⟨b13,6,none⟩ (.slice none 0 0)).heap[b13]? =some (.cells #[.slice sa0 sn0 sc0,.slice sa1 sn1 sc1,.slice sa2 sn2 sc2,.slice sa3 sn3 sc3,.slice sa4 sn4 sc4,.slice sa5 sn5 sc5,.slice none 0 0,.slice sa7 sn7 sc7,.slice sa8 sn8 sc8,.slice sa9 sn9 sc9,.slice sa10 sn10 sc10,.slice sa11 sn11 sc11] 50 (0,0))):=jH (jP W b13 6 _ _ (.slice none 0 0) H13.out);have HSp1:=jH (HS0.out.kept H13.out (kJh [(sa0,sn0,sc0),(sa1,sn1,sc1),(sa2,sn2,sc2),(sa3,sn3,sc3),(sa4,sn4,sc4),(sa5,sn5,sc5),(sa6,sn6,sc6),(sa7,sn7,sc7),(sa8,sn8,sc8),(sa9,sn9,sc9),(sa10,sn10,sc10),(sa11,sn11,sc11)]) 6 (.slice none 0 0));have HB1:=jH (HVW.out.setCell (p:=⟨b13,6,none⟩) hb13 (.slice none 0 0))
  go_upto_region 32 with(fail)
  clear y6 f6;generalize W.setCell ⟨b13,6,none⟩ (.slice none 0 0)=W9 at*;have y0:=jK W9 b13 0 _ _ (0,0) HS1.out;have y1:=jK W9 b13 1 _ _ (0,0) HS1.out;have y2:=jK W9 b13 2 _ _ (0,0) HS1.out;have y3:=jK W9 b13 3 _ _ (0,0) HS1.out;have y4:=jK W9 b13 4 _ _ (0,0) HS1.out;have y5:=jK W9 b13 5 _ _ (0,0) HS1.out;have y6:=jK W9 b13 6 _ _ (0,0) HS1.out;have y7:=jK W9 b13 7 _ _ (0,0) HS1.out;have y8:=jK W9 b13 8 _ _ (0,0) HS1.out;have y9:=jK W9 b13 9 _ _ (0,0) HS1.out;have y10:=jK W9 b13 10 _ _ (0,0) HS1.out;have y11:=jK W9 b13 11 _ _ (0,0) HS1.out;simp at y0 y1 y2 y3 y4 y5 y6 y7 y8 y9 y10 y11;have HOv:=jH (kE9 HSp1.out)
  go_wp2_with fail
  refine HOv.out.mono ?_;rintro e w20 ⟨rfl,hb⟩;have HB20:=jH (HB1.out.trans (hb.mono HB1.out.size));clear hb HOv y0 y1 y2 y3 y4 y5 y6 y7 y8 y9 y10 y11
  go_wp2_with fail
  refine(kDa w20).mono ?_;rintro e w21 ⟨rfl,hb⟩;have HB21:=jH (HB20.out.trans (hb.mono HB20.out.size));clear hb;go_wp2
  exact HQ.out _ _ rfl rfl HB21.out
 ·have h9:∃g,sa9=some ⟨g,0,none⟩∧V.heap.size≤g∧sn9=272:=by
   obtain⟨a1,c1,a2,c2,a3,c3,e1, -, -,o1, -, -⟩:=HO3.out;simp only[Value.slice.injEq]at e1;obtain⟨rfl,rfl,rfl⟩:=e1;obtain⟨g,e,h1, -⟩:=o1.at (by omega);exact⟨g,e,h1,rfl⟩
  obtain⟨g9,rfl,hg9,hn9⟩:=h9
  have hown:∃xs,Own V.heap.size 29 W (some ⟨g9,0,none⟩) sn9 sc9 xs:=by
   obtain⟨a1,c1,a2,c2,a3,c3,e1, -, -,o1, -, -⟩:=HO3.out;simp only[Value.slice.injEq]at e1;obtain⟨rfl,rfl,rfl⟩:=e1;exact⟨_,o1⟩
  obtain⟨xs,hown⟩:=hown;have HCb:Hid (ChB W (W.setCell ⟨g9,sp,none⟩ (.int .u16 9999))):=jH (kP6 hown 9999 (by omega))
  have hne:b13≠g9:=fun e=>by
   subst e;obtain⟨cur,z1⟩:=Any.ty ⟨xs,hown⟩;rw[H13.out]at z1;simp at z1
  obtain⟨p0,p1⟩:=(Any.there (Own.any hown) sp (by omega)) 0 (by omega);obtain⟨v0,p0⟩:=Option.isSome_iff_exists.1 p0;simp only[Nat.mul_one,Nat.add_zero]at p0 p1
  have HSp1:Hid (kIj (W.setCell ⟨g9,sp,none⟩ (.int .u16 9999)) (.slice sa0 sn0 sc0) (.slice sa1 sn1 sc1) (.slice sa2 sn2 sc2) (.slice sa3 sn3 sc3) (.slice sa4 sn4 sc4) (.slice sa5 sn5 sc5) (.slice sa6 sn6 sc6) (.slice sa7 sn7 sc7) (.slice sa8 sn8 sc8) (.slice (some ⟨g9,0,none⟩) sn9 sc9) (.slice sa10 sn10 sc10) (.slice sa11 sn11 sc11)):=jH (by
   obtain⟨zT0,zM0,h0⟩:=HO0.out.any (HK.out 0) HCb.out;obtain⟨zT1,zM1,h1⟩:=HO1.out.any (HK.out 1) HCb.out;obtain⟨zT2,zM2,h2⟩:=HO2.out.any (HK.out 2) HCb.out;obtain⟨zT,zM,zL,h3,h4⟩:=HO3.out.far (HK.out 3) (by omega) HCb.out
   exact⟨⟨_,_,_⟩,⟨_,_,_⟩,⟨_,_,_⟩,⟨zT,zM,zL⟩,h0,h1,h2,h3,fun h=>h4 h.2.2.2⟩)
  have HS1:=jH ((jQ W ⟨g9,sp,none⟩ b13 (.int .u16 9999) hne).trans H13.out);have HB1:=jH (HVW.out.setCell (p:=⟨g9,sp,none⟩) hg9 (.int .u16 9999));have y9:=jK W b13 9 _ _ (0,0) H13.out;simp at y9
  have hspi:(sp:Int)<(sn9:Int):=by omega
  have hspn:sp<sn9:=by omega
  clear HO0 HO1 HO2 HO3 HCb hown hn9 hne
  go_upto_region 32 with(fail)
  clear y9 p0 p1;generalize W.setCell ⟨g9,sp,none⟩ (.int .u16 9999)=W9 at*;have y0:=jK W9 b13 0 _ _ (0,0) HS1.out;have y1:=jK W9 b13 1 _ _ (0,0) HS1.out;have y2:=jK W9 b13 2 _ _ (0,0) HS1.out;have y3:=jK W9 b13 3 _ _ (0,0) HS1.out;have y4:=jK W9 b13 4 _ _ (0,0) HS1.out;have y5:=jK W9 b13 5 _ _ (0,0) HS1.out;have y6:=jK W9 b13 6 _ _ (0,0) HS1.out;have y7:=jK W9 b13 7 _ _ (0,0) HS1.out;have y8:=jK W9 b13 8 _ _ (0,0) HS1.out;have y9:=jK W9 b13 9 _ _ (0,0) HS1.out;have y10:=jK W9 b13 10 _ _ (0,0) HS1.out;have y11:=jK W9 b13 11 _ _ (0,0) HS1.out;simp at y0 y1 y2 y3 y4 y5 y6 y7 y8 y9 y10 y11;have HOv:=jH (kE9 HSp1.out)
  go_wp2_with fail
  refine HOv.out.mono ?_;rintro e w20 ⟨rfl,hb⟩;have HB20:=jH (HB1.out.trans (hb.mono HB1.out.size));clear hb HOv y0 y1 y2 y3 y4 y5 y6 y7 y8 y9 y10 y11
  go_wp2_with fail
  refine(kDa w20).mono ?_;rintro e w21 ⟨rfl,hb⟩;have HB21:=jH (HB20.out.trans (hb.mono HB20.out.size));clear hb;go_wp2
  exact HQ.out _ _ rfl rfl HB21.out
end Go.Proofs.YtbmphakfgoompaaGreat
