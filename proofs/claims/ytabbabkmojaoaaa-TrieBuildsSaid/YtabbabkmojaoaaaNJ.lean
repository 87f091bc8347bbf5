/- several texts in one: WB WC WD WE -/
import Derived.Test.YtabbabkmojaoaaaNI
set_option linter.unusedVariables false
set_option linter.unusedSimpArgs false
set_option maxRecDepth 100000
set_option maxHeartbeats 16000000
namespace Go.Proofs.Ytabbabkmojaoaaa
open Go.RowKit
attribute [local go_sem] Oper.semAt_some
def kAt (F:Nat→Int):Nat→List (Int×Int)
 | 0=>[]
 | n+1=>kF0 (kAt F n) (n:Nat) (F n)
theorem kKz (L:List (Int×Int))(t t' v:Int):kF0 (kF0 L t v) t' v=kF0 L t' v:=by
 unfold kF0
 cases h:L.getLast? with
 | none=>simp
 | some x=>
  simp only
  by_cases e:x.2=v
  ·rw[if_pos e];simp[e]
  ·rw[if_neg e];simp[e]
theorem kI8 {F:Nat→Int}{at_:Nat}{v:Int}:∀k,(∀r,at_≤r→r≤at_+k→F r=v)→kF0 (kAt F at_) ((at_+k:Nat):Int) v=kAt F (at_+k+1)
 | 0,h=>by rw[Nat.add_zero,kAt,h at_ jR jR]
 | k+1,h=>by
  rw[show at_+(k+1)+1=(at_+k+1)+1 by omega,kAt,←kI8 k (fun r h1 h2=>h r h1 (by omega)),h (at_+k+1) (by omega) (by omega),kKz]
  rfl
theorem kKk (L:List (Int×Int))(t v:Int):(kF0 L t v).length≤L.length+1:=by
 unfold kF0
 cases h:L.getLast? with
 | none=>simp
 | some x=>
  simp only
  split
  ·simp
  ·simp
theorem kC6 (F:Nat→Int):∀n,(kAt F n).length≤n
 | 0=>Nat.le_refl _
 | n+1=>Nat.le_trans (kKk _ _ _) (Nat.succ_le_succ (kC6 F n))
def kG7 (k:IntKind) (w:World) (a:Option Addr) (l:List SpanD):Prop:=∀i (h:i<l.length),∃b o,a=some ⟨b,o,none⟩∧w.cell? ⟨b,o+i*3,none⟩=some (.int .i32 l[i].f)∧w.cell? ⟨b,o+i*3+1,none⟩=some (.int .i32 l[i].t)∧w.cell? ⟨b,o+i*3+2,none⟩=some (.int k l[i].v)
theorem kG7.below {k:IntKind}{w w':World}{a:Option Addr}{l:List SpanD}(h:kG7 k w a l)(hb:Below w.heap.size w w'):kG7 k w' a l:=fun i hi=>by
 obtain⟨b,o,e,h1,h2,h3⟩:=h i hi;have hl:=World.block_lt_of_cell? w _ h1;exact⟨b,o,e,(hb.cell (p:=⟨b,o+i*3,none⟩) hl).trans h1,(hb.cell (p:=⟨b,o+i*3+1,none⟩) hl).trans h2,(hb.cell (p:=⟨b,o+i*3+2,none⟩) hl).trans h3⟩
theorem kG7.at {k:IntKind}{w:World}{a:Option Addr}{l:List SpanD}(h:kG7 k w a l)(hn:0<l.length):∃b o,a=some ⟨b,o,none⟩:=by
 obtain⟨b,o,e, -⟩:=h 0 hn;exact⟨b,o,e⟩
theorem kG7.get {k:IntKind}{w:World}{b o:Nat}{l:List SpanD}(h:kG7 k w (some ⟨b,o,none⟩) l)(i:Nat)(hi:i<l.length):w.cell? ⟨b,o+i*3,none⟩=some (.int .i32 l[i].f)∧w.cell? ⟨b,o+i*3+1,none⟩=some (.int .i32 l[i].t)∧w.cell? ⟨b,o+i*3+2,none⟩=some (.int k l[i].v):=by
 obtain⟨b',o',e,h1⟩:=h i hi;cases e;exact h1
def kJd (s t:SpanD):Prop:=s.f≤t.t∧t.f≤s.t
instance (s t:SpanD):Decidable (kJd s t):=by unfold kJd;infer_instance
theorem kL9 {l:List SpanD}{i:Nat}(hi:i<l.length)(hb:∀j,j<l.length→¬badS (l.getD j default)):meetS l i↔∃k,∃h:k<i,kJd l[i] (l[k]'(by omega)):=by
 have hg:∀j (h:j<l.length),l.getD j default=l[j]:=fun j h=>by simp[List.getD_eq_getElem?_getD,h]
 constructor
 ·rintro⟨x,h1,h2⟩;rw[hg i hi]at h1;obtain⟨k,hk,h3, -⟩:=kHn h2;rw[List.length_take]at hk;rw[List.getElem_take]at h3;have h1:=of_decide_eq_true h1;have h3:=of_decide_eq_true h3;refine⟨k,by omega,?_⟩;unfold kJd;omega
 ·rintro⟨k,hk,h1,h2⟩
  have b1:=hb i hi;rw[hg i hi]at b1
  have b2:=hb k (by omega);rw[hg k (by omega)]at b2
  unfold badS at b1 b2
  obtain⟨x,hx⟩:∃x:Int,(l[i].f≤x∧x≤l[i].t)∧(l[k].f≤x∧x≤l[k].t):=by
   by_cases h:l[i].f≤l[k].f
   ·exact⟨l[k].f,by omega,by omega⟩
   ·exact⟨l[i].f,by omega,by omega⟩
  refine⟨x,by rw[hg i hi];exact decide_eq_true hx.1,?_⟩;unfold ownF
  cases hf:(l.take i).findIdx? (kFd x)with
  | none=>
   have:=List.findIdx?_eq_none_iff.1 hf l[k] (by rw[List.mem_take_iff_getElem];exact⟨k,by omega,rfl⟩);rw[show kFd x l[k]=true from decide_eq_true hx.2]at this;cases this
  | some j=>simp only;omega
def ScI (l:List SpanD) (at_:Int) (wb:World) (v rest:Int) (tv iv:Value) (wr:World) (vv:Value):Prop:=
 ∃(k:Nat) (to:Int),k≤l.length∧iv= .int .i64 (k:Nat)∧tv= .int .i32 to∧vv= .int .i64 rest∧at_≤to∧to≤1114111∧(∀j (h:j<l.length),j<k→kFd at_ l[j]=false)∧(∀j (h:j<l.length),j<k→at_<l[j].f→to<l[j].f)∧Below wb.heap.size wb wr
theorem kMf {l:List SpanD}{at_ to rest:Int}(h0:0≤at_)(h1:∀j (h:j<l.length),kFd at_ l[j]=false)(h2:∀j (h:j<l.length),at_<l[j].f→to<l[j].f):∀r:Nat,at_≤r→(r:Int)≤to→fS rest l r=rest:=by
 intro r hr1 hr2;refine fS_out (fun s hs e=> ?_);obtain⟨j,hj,rfl⟩:=List.getElem_of_mem hs;have e:=of_decide_eq_true e
 by_cases hf:l[j].f≤at_
 ·have:=h1 j hj;rw[show kFd at_ l[j]=true from decide_eq_true ⟨hf,by omega⟩]at this;cases this
 ·have:=h2 j hj (by omega);omega
theorem kMg {l:List SpanD}{at_ rest:Int}(ha:kLq l){j:Nat}(hj:j<l.length)(hf:l[j].f≤at_):∀r:Nat,at_≤r→(r:Int)≤l[j].t→fS rest l r=l[j].v:=fun r h1 h2=>
 fS_mem ha (List.getElem_mem hj) (decide_eq_true ⟨by omega,h2⟩)
def kK3 (w:World) (rest:Int) (l:List SpanD) (e:Ending) (w':World):Prop:=
 Below w.heap.size w w'∧∃fv,
  ((∃i,i<l.length∧badS (l.getD i default)∧(∀j,j<i→¬badS (l.getD j default))∧fv= .agg #[.slice none 0 0,.slice none 0 0]∧e= .returned (.tuple #[fv,.int .i64 (i:Nat),.int .i64 110]))∨
  ((∀j,j<l.length→¬badS (l.getD j default))∧∃k,k<l.length∧meetS l k∧(∀j,j<k→¬meetS l j)∧fv= .agg #[.slice none 0 0,.slice none 0 0]∧e= .returned (.tuple #[fv,.int .i64 (k:Nat),.int .i64 111]))∨
  (okS l∧e= .returned (.tuple #[fv,.int .i64 0,.int .i64 0])∧kH9 w' fv (kAt (fS rest l) 1114112)))
theorem Ints.box {k:IntKind}{w:World}{bf:Nat}{x y:Value}{ty:TypeId}{a:Option Addr}{zs:List Int}(h:Ints k w a zs)(hx:w.heap[bf]? =Option.some (.cells #[x,y] ty (0,0)))(nx:∀z,x≠ .int k z)(ny:∀z,y≠ .int k z)(j:Nat)(u:Value):Ints k (w.setCell ⟨bf,j,none⟩ u) a zs:=by
 intro i hi;obtain⟨b,o,e,hc⟩:=h i hi;refine⟨b,o,e,?_⟩
 have hb:b≠bf:=by
  intro hb;subst hb;rw[jK w b (o+i) _ _ (0,0) hx]at hc
  match o+i,hc with
  | 0,hc=>exact nx _ (by simpa using hc)
  | 1,hc=>exact ny _ (by simpa using hc)
  | (m+2),hc=>simp at hc
 rw[World.cell?_of_block (w:=w) (a:=⟨b,o+i,none⟩) (jQ w ⟨bf,j,none⟩ b _ hb)];exact hc
theorem kH9.box {w:World}{bf:Nat}{x y:Value}{ty:TypeId}{fv:Value}{L:List (Int×Int)}(h:kH9 w fv L)(hx:w.heap[bf]? =some (.cells #[x,y] ty (0,0)))(nx:∀k z,x≠ .int k z)(ny:∀k z,y≠ .int k z)(j:Nat)(u:Value):kH9 (w.setCell ⟨bf,j,none⟩ u) fv L:=by
 obtain⟨aT,cT,aV,cV,h1,h2,h3,h4,h5⟩:=h;exact⟨aT,cT,aV,cV,h1,h2.box hx (nx _) (ny _) j u,h3.box hx (nx _) (ny _) j u,h4,h5⟩
def RbR4 (w7:World) (bf:Nat) (F:Nat→Int) (iv:Value) (W:World):Prop:=∃at_:Nat,at_≤1114112∧iv= .int .i32 (at_:Nat)∧(∃x y,W.heap[bf]? =some (.cells #[x,y] 63 (0,0))∧kH9 W (.agg #[x,y]) (kAt F at_))∧Below w7.heap.size w7 W
def RbR2 (w0:World) (l:List SpanD) (iv:Value) (wr:World):Prop:=∃k:Nat,k≤l.length∧iv= .int .i64 (k:Nat)∧(∀j,j<k→¬meetS l j)∧Below w0.heap.size w0 wr
def RbR3 (w0:World) (l:List SpanD) (s:SpanD) (i:Nat) (kv:Value) (wr:World):Prop:=∃k:Nat,k≤i∧kv= .int .i64 (k:Nat)∧(∀j (h:j<l.length),j<k→¬kJd s l[j])∧Below w0.heap.size w0 wr
def RbR1 (w0:World) (l:List SpanD) (iv:Value) (wr:World):Prop:=∃k:Nat,k≤l.length∧iv= .int .i64 (k:Nat)∧(∀j,j<k→¬badS (l.getD j default))∧Below w0.heap.size w0 wr
theorem kF7 (rest:Int)(a:Option Addr)(n c:Nat)(l:List SpanD)(w:World)(hl:l.length=n)(hn:n≤60)(hs:kG7 .i64 w a l)(hwf:∀s∈l, -2147483648≤s.f∧s.f≤2147483647∧ -2147483648≤s.t∧s.t≤2147483647):
  Calls Try.prog 34 #[.int .i64 rest,.slice a n c] w fun e w'=>kK3 w rest l e w':=by
 have HL:=jH hl;clear hl
 have HS:=jH hs;clear hs
 have HWf:=jH hwf;clear hwf
 have HA:=jH (jN w (.cells #[.slice none 0 0,.slice none 0 0] 63));have HB:=jH ((Below.refl _ w).alloc jR (.cells #[.slice none 0 0,.slice none 0 0] 63));have HZ:=jH (World.size_alloc w (.cells #[.slice none 0 0,.slice none 0 0] 63))
 obtain⟨b0,hb0⟩:∃b0,b0=w.heap.size:=⟨_,rfl⟩
 go_enter Try.func34,Try.ntmps34
 go_upto_region 1 with(fail)
 rw[←hb0]at HA HZ ⊢;generalize w.alloc (.cells #[.slice none 0 0,.slice none 0 0] 63)=w0 at*
 have HBz:=jH hb0;clear hb0
 have HS0:=jH (HS.out.below HB.out);go_wp2
 go_loopw [7] (RbR1 w0 l) (fun i _=>n - (intOf i).toNat)
 case atStart=>exact⟨0,Nat.zero_le _,rfl,fun j hj=>by omega,Below.refl _ _⟩
 case round=>
  obtain⟨k,hk,rfl,hgood,hbel⟩:=hrel
  have HGd:=jH hgood;clear hgood
  have HBe:=jH hbel;clear hbel
  rw[HL.out]at hk
  by_cases hkn:k<n
  ·have hki:(k:Int)<(n:Int):=by omega
   have hkl:k<l.length:=by rw[HL.out];exact hkn
   obtain⟨b,o,ha⟩:=HS0.out.at (by omega);subst ha;obtain⟨c1,c2,c3⟩:=(HS0.out.below HBe.out).get k hkl;have hwk:=HWf.out l[k] (List.getElem_mem hkl);have HGk:=jH (show l.getD k default=l[k] by simp[hkl]);generalize l[k]=s at*
   by_cases hb:badS s
   ·have HBad:=jH hb
    have hcs:(s.f<0)∨(¬s.f<0∧1114111<s.t)∨(¬s.f<0∧¬1114111<s.t∧s.t<s.f):=by unfold badS at hb;omega
    clear hb;have x0:=(HBe.out.block b0 (by have:=HZ.out;omega)).trans HA.out;have p0:=jK wr b0 0 _ _ (0,0) x0;have p1:=jK wr b0 1 _ _ (0,0) x0;have f0:=jO wr b0 0 _ _ x0;have f1:=jO wr b0 1 _ _ x0;simp at p0 p1
    have X0:=jH x0;clear x0
    have hbz:b0<wr.heap.size:=(jL X0.out)
    rcases hcs with h1 | ⟨h1,h2⟩ | ⟨h1,h2,h3⟩
    all_goals
     go_wp2
     have y1:=jP wr b0 0 _ _ (.slice none 0 0) X0.out;have y2:=jP _ b0 1 _ _ (.slice none 0 0) y1;have z0:=(Below.heap_alloc ((wr.setCell ⟨b0,0,none⟩ (.slice none 0 0)).setCell ⟨b0,1,none⟩ (.slice none 0 0)) (.cells #[.int .i32 s.f,.int .i32 s.t,.int .i64 s.v] 150) b0 (by simpa using hbz)).trans y2;have r0:(((wr.setCell ⟨b0,0,none⟩ (.slice none 0 0)).setCell ⟨b0,1,none⟩ (.slice none 0 0)).alloc (.cells #[.int .i32 s.f,.int .i32 s.t,.int .i64 s.v] 150)).cell? ⟨b0,0,none⟩=some (.slice none 0 0):=jK _ b0 0 _ _ (0,0) z0;have r1:(((wr.setCell ⟨b0,0,none⟩ (.slice none 0 0)).setCell ⟨b0,1,none⟩ (.slice none 0 0)).alloc (.cells #[.int .i32 s.f,.int .i32 s.t,.int .i64 s.v] 150)).cell? ⟨b0,1,none⟩=some (.slice none 0 0):=jK _ b0 1 _ _ (0,0) z0;refine jS (v:= .tuple #[.agg #[.slice none 0 0,.slice none 0 0],.int .i64 (k:Nat),.int .i64 110]) (by simp[results,Try.results34,go_sem,r0,r1]) rfl ?_;refine⟨?_,_,.inl ⟨k,hkl,by rw[HGk.out];exact HBad.out,HGd.out,rfl,rfl⟩⟩;exact(((HB.out.trans (HBe.out.mono HB.out.size)).setCell (p:=⟨b0,0,none⟩) (by show _≤b0;have:=HBz.out;omega) _).setCell (p:=⟨b0,1,none⟩) (by show _≤b0;have:=HBz.out;omega) _).alloc (by have:=HB.out.size;have:=HBe.out.size;simp;omega) _
   ·have HBad:=jH hb
    have hcs:¬s.f<0∧¬1114111<s.t∧¬s.t<s.f:=by unfold badS at hb;omega
    obtain⟨h1,h2,h3⟩:=hcs;clear hb;go_wp2
    refine⟨⟨k+1,by omega,by go_num,fun j hj=> ?_,HBe.out.alloc HBe.out.size _⟩,by simp[intOf];omega⟩
    by_cases e:j=k
    ·rw[e,HGk.out];exact HBad.out
    ·exact HGd.out j (by omega)
  ·obtain rfl:k=n:=by omega
   have hki:¬(k:Int)<(k:Int):=by omega
   have HNb:Hid (∀j,j<l.length→¬badS (l.getD j default)):=jH (fun j hj=>HGd.out j (by rw[←HL.out];exact hj));clear HGd;go_wp2
   go_loopw [9] (RbR2 w0 l) (fun i _=>k - (intOf i).toNat)
   case atStart=>exact⟨0,Nat.zero_le _,rfl,fun j hj=>by omega,HBe.out⟩
   case round=>
    clear HBe;obtain⟨i,hi,rfl,hnm,hbel⟩:=hrel
    have HNm:=jH hnm;clear hnm
    have HBe:=jH hbel;clear hbel
    rw[HL.out]at hi
    by_cases hik:i<k
    ·have hii:(i:Int)<(k:Int):=by omega
     have hil:i<l.length:=by rw[HL.out];exact hik
     obtain⟨b,o,ha⟩:=HS0.out.at (by omega);subst ha;have HMe:=jH (kL9 hil HNb.out);have HGc:=jH (fun(W:World) (hb:Below w0.heap.size w0 W)=>(HS0.out.below hb).get i hil)
     obtain⟨s,hs⟩:∃s,s=l[i]:=⟨_,rfl⟩
     rw[←hs]at HGc HMe;go_wp2
     go_loopw [10] (RbR3 w0 l s i) (fun i' _=>i - (intOf i').toNat)
     case atStart=>exact⟨0,Nat.zero_le _,rfl,fun j _ hj=>by omega,HBe.out⟩
     case round=>
      clear HBe;obtain⟨m,hm,rfl,hno,hbel⟩:=hrel
      have HNo:=jH hno;clear hno
      have HBe:=jH hbel;clear hbel
      by_cases hmi:m<i
      ·have hmi':(m:Int)<(i:Int):=by omega
       have hmk':(m:Int)<(k:Int):=by omega
       have hml:m<l.length:=by omega
       obtain⟨c1,c2, -⟩:=HGc.out _ HBe.out;obtain⟨d1,d2, -⟩:=(HS0.out.below HBe.out).get m hml
       have HGm:=jH (fun j (h:j<l.length) (hj:j<m+1) (ht:¬kJd s l[m])=>show ¬kJd s l[j]from by
        by_cases e:j=m
        ·subst e;exact ht
        ·exact HNo.out j h (by omega))
       have HMt:=jH (fun(h:kJd s l[m])=>HMe.out.2 ⟨m,hmi,h⟩);clear hs;generalize l[m]=t at*
       by_cases hov:kJd s t
       ·have HYes:=jH (HMt.out hov);obtain⟨h1,h2⟩:=hov;go_wp2
        go_quiet (fail)
        have HB2:Hid (Below w0.heap.size w0 (wr.drewN nq)):=jH (below_drewN HBe.out nq);generalize wr.drewN nq=w6 at*;have x0:=(HB2.out.block b0 (by have:=HZ.out;omega)).trans HA.out;have p0:=jK w6 b0 0 _ _ (0,0) x0;have p1:=jK w6 b0 1 _ _ (0,0) x0;have f0:=jO w6 b0 0 _ _ x0;have f1:=jO w6 b0 1 _ _ x0;simp at p0 p1
        have X0:=jH x0;clear x0
        go_wp2
        have y1:=jP w6 b0 0 _ _ (.slice none 0 0) X0.out;have y2:=jP _ b0 1 _ _ (.slice none 0 0) y1;have r0:((w6.setCell ⟨b0,0,none⟩ (.slice none 0 0)).setCell ⟨b0,1,none⟩ (.slice none 0 0)).cell? ⟨b0,0,none⟩=some (.slice none 0 0):=jK _ b0 0 _ _ (0,0) y2;have r1:((w6.setCell ⟨b0,0,none⟩ (.slice none 0 0)).setCell ⟨b0,1,none⟩ (.slice none 0 0)).cell? ⟨b0,1,none⟩=some (.slice none 0 0):=jK _ b0 1 _ _ (0,0) y2;refine jS (v:= .tuple #[.agg #[.slice none 0 0,.slice none 0 0],.int .i64 (i:Nat),.int .i64 111]) (by simp[results,Try.results34,go_sem,r0,r1]) rfl ?_;refine⟨?_,_,.inr (.inl ⟨HNb.out,i,hil,HYes.out,HNm.out,rfl,rfl⟩)⟩;exact((HB.out.trans (HB2.out.mono HB.out.size)).setCell (p:=⟨b0,0,none⟩) (by show _≤b0;have:=HBz.out;omega) _).setCell (p:=⟨b0,1,none⟩) (by show _≤b0;have:=HBz.out;omega) _
       ·have HOv:=jH hov
        have hcs:¬s.f≤t.t∨(s.f≤t.t∧¬t.f≤s.t):=by unfold kJd at hov;omega
        clear hov
        rcases hcs with h1 | ⟨h1,h2⟩
        ·have e1:decide (s.f≤t.t)=false:=decide_eq_false h1
         go_upto_region 13 with(fail)
         refine wp_region_quiet_lit (by kernel_rfl) (by kernel_rfl) ?_
         iterate 24 (go_big_quiet_step (fail))
         refine wpQuiet_nil ?_;rintro _ ⟨nq,rfl⟩;have HB2:Hid (Below w0.heap.size w0 (wr.drewN nq)):=jH (below_drewN HBe.out nq);generalize wr.drewN nq=w6 at*;go_wp2
         go_roundw
         case rel=>exact⟨m+1,by omega,by go_num,fun j h hj=>HGm.out j h hj HOv.out,HB2.out⟩
         case measure=>simp[intOf];omega
        ·have e1:decide (s.f≤t.t)=true:=decide_eq_true h1;have e2:decide (t.f≤s.t)=false:=decide_eq_false h2
         go_upto_region 13 with(fail)
         refine wp_region_quiet_lit (by kernel_rfl) (by kernel_rfl) ?_
         iterate 24 (go_big_quiet_step (fail))
         refine wpQuiet_nil ?_;rintro _ ⟨nq,rfl⟩;have HB2:Hid (Below w0.heap.size w0 (wr.drewN nq)):=jH (below_drewN HBe.out nq);generalize wr.drewN nq=w6 at*;go_wp2
         go_roundw
         case rel=>exact⟨m+1,by omega,by go_num,fun j h hj=>HGm.out j h hj HOv.out,HB2.out⟩
         case measure=>simp[intOf];omega
      ·obtain rfl:m=i:=by omega
       have hmi':¬(m:Int)<(m:Int):=by omega
       have HNx:Hid (∀j,j<m+1→¬meetS l j):=jH (fun j hj=>by
        by_cases e:j=m
        ·subst e;intro h;obtain⟨q,hq,ho⟩:=HMe.out.1 h;exact HNo.out q (by omega) hq ho
        ·exact HNm.out j (by omega))
       go_wp2
       go_roundw
       case rel=>exact⟨m+1,by omega,by go_num,HNx.out,HBe.out⟩
       case measure=>simp[intOf];omega
    ·obtain rfl:i=k:=by omega
     have hii:¬(i:Int)<(i:Int):=by omega
     have HOk:Hid (okS l):=jH ⟨HNb.out,fun j hj=>HNm.out j (by rw[←HL.out];exact hj)⟩;have HAp:Hid (kLq l):=jH ((kLu l).1 HOk.out.2)
     obtain⟨F,hF⟩:∃F,F=fS rest l:=⟨_,rfl⟩
     have HF:=jH hF;clear hF
     obtain⟨w7,hw7⟩:∃w7,w7=wr:=⟨_,rfl⟩
     rw[←hw7]at HBe ⊢;clear hw7;have E1:=jH (jN w7 (.cells #[.slice none 0 0,.slice none 0 0] 63));have E2:=jH ((Below.refl _ w7).alloc jR (.cells #[.slice none 0 0,.slice none 0 0] 63))
     obtain⟨bf,hbf⟩:∃bf,bf=w7.heap.size:=⟨_,rfl⟩
     have HBf:=jH hbf;rw[←hbf]at E1;go_wp2
     rw[←hbf];clear hbf;generalize w7.alloc (.cells #[.slice none 0 0,.slice none 0 0] 63)=w8 at*
     go_loopw [11] (RbR4 w7 bf F) (fun i _=>1114112 - (intOf i).toNat)
     case atStart=>exact⟨0,Nat.zero_le _,rfl,⟨_,_,E1.out,kH9.nil _⟩,E2.out⟩
     case round=>
      obtain⟨at_,hat,rfl,⟨x,y,hxy,hfn⟩,hbel⟩:=hrel
      have HXy:=jH hxy;have HFn:=jH hfn;have HBl:=jH hbel
      clear hxy hfn hbel
      by_cases ha:at_≤1114111
      ·have hai:(at_:Int)≤1114111:=by omega
       obtain⟨w9,hw9⟩:∃w9,w9=wr:=⟨_,rfl⟩
       rw[←hw9]at HXy HFn HBl ⊢;clear hw9;have HS9:=jH (HS0.out.below (HBe.out.trans (HBl.out.mono HBe.out.size)));go_wp2
       go_loopw [13,14,15] (fun vv tv iv W'=>ScI l (at_:Nat) w9 0 rest tv iv W' vv) (fun _ _ i' _=>i - (intOf i').toNat)
       case atStart=>exact⟨0,1114111,Nat.zero_le _,rfl,rfl,rfl,by omega,by omega,fun j _ hj=>by omega,fun j _ hj=>by omega,Below.refl _ _⟩
       case round=>
        obtain⟨m,to,hm,rfl,rfl,rfl,hto1,hto2,hno,hah,hbel⟩:=hrel
        have HNo:=jH hno;have HAh:=jH hah;have HBm:=jH hbel
        clear hno hah hbel;rw[HL.out]at hm
        by_cases hmi:m<i
        ·have hmii:(m:Int)<(i:Int):=by omega
         have hml:m<l.length:=by rw[HL.out];exact hmi
         obtain⟨b,o,haa⟩:=HS9.out.at (by omega);subst haa;obtain⟨c1,c2,c3⟩:=(HS9.out.below HBm.out).get m hml
         have hnb:¬badS l[m]:=by have:=HNb.out m hml;rwa[show l.getD m default=l[m] by simp[hml]]at this
         unfold badS at hnb;have HSs:=jH (fun(hf:l[m].f≤(at_:Int))=>kMg (rest:=rest) HAp.out hml hf)
         have HNo2:=jH (fun(ht:kFd (at_:Nat) l[m]=false) j (h:j<l.length) (hj:j<m+1)=>show kFd (at_:Nat) l[j]=false from by
          by_cases e:j=m
          ·subst e;exact ht
          ·exact HNo.out j h (by omega))
         have HAh2:=jH (fun(to':Int) (hle:to'≤to) (ht:(at_:Int)<l[m].f→to'<l[m].f) j (h:j<l.length) (hj:j<m+1) (hf:(at_:Int)<l[j].f)=>show to'<l[j].f from by
          by_cases e:j=m
          ·subst e;exact ht hf
          ·have:=HAh.out j h (by omega) hf;omega)
         clear HNo HAh;generalize l[m]=s at*
         have hcs:(s.f≤(at_:Int)∧(at_:Int)≤s.t)∨((at_:Int)<s.f∧s.f≤to)∨((at_:Int)<s.f∧¬s.f≤to)∨(s.f≤(at_:Int)∧¬(at_:Int)≤s.t):=by omega
         rcases hcs with⟨h1,h2⟩ | ⟨h1,h2⟩ | ⟨h1,h2⟩ | ⟨h1,h2⟩
         ·have HCon:=jH (HSs.out h1);go_wp2
          go_quiet (fail)
          have HBq:Hid (Below w9.heap.size w9 ((wr.alloc (.cells #[.int .i32 s.f,.int .i32 s.t,.int .i64 s.v] 150)).drewN nq)):=jH (below_drewN (HBm.out.alloc HBm.out.size _) nq);generalize (wr.alloc (.cells #[.int .i32 s.f,.int .i32 s.t,.int .i64 s.v] 150)).drewN nq=w12 at*;clear c1 c2 c3
          obtain⟨d,hd⟩:∃d:Nat,s.t=((at_+d:Nat):Int):=⟨(s.t - at_).toNat,by omega⟩
          have hd2:at_+d≤1114111:=by omega
          have HRun:=jH (kI8 (F:=F) (at_:=at_) (v:=s.v) d (fun r h1 h2=>by rw[HF.out];exact HCon.out r (by omega) (by omega)));have x0:=(HBq.out.block bf (jL HXy.out)).trans HXy.out;have p0:=jK w12 bf 0 _ _ (0,0) x0;have p1:=jK w12 bf 1 _ _ (0,0) x0;simp at p0 p1
          have X0:=jH x0;clear x0
          rw[hd];clear hd
          go_wp2_with fail
          refine(kKl w12 (.agg #[x,y]) (kAt F at_) ((at_+d:Nat):Int) s.v (by have:=kC6 F at_;omega) (HFn.out.below HBq.out)).mono ?_;rintro e w20 ⟨fv,rfl,hf,hb⟩;rw[HRun.out]at hf;have HF2:=jH hf;obtain⟨aT,cT,aV,cV,rfl, -⟩:=hf;obtain⟨aT0,cT0,aV0,cV0,hxe, -⟩:=HFn.out
          have hxe2:x= .slice aT0 (kAt F at_).length cT0∧y= .slice aV0 (kAt F at_).length cV0:=by simpa using hxe
          have x1:=(hb.block bf (jL X0.out)).trans X0.out;have p2:=jK w20 bf 0 _ _ (0,0) x1;have p3:=jK w20 bf 1 _ _ (0,0) x1;have f2:=jO w20 bf 0 _ _ x1;have f3:=jO w20 bf 1 _ _ x1;simp at p2 p3;have y1:=jP w20 bf 0 _ _ (.slice aT (kAt F (at_+d+1)).length cT) x1;have y2:=jP _ bf 1 _ _ (.slice aV (kAt F (at_+d+1)).length cV) y1
          have g1:=(HF2.out.box x1 (fun k z e=>by rw[hxe2.1]at e;cases e) (fun k z e=>by rw[hxe2.2]at e;cases e) 0 (.slice aT (kAt F (at_+d+1)).length cT)).box y1 (fun k z e=>by cases e) (fun k z e=>by
           have:y= .int k z:=e
           rw[hxe2.2]at this;cases this) 1 (.slice aV (kAt F (at_+d+1)).length cV)
          have HG:=jH (And.intro y2 g1);have HB4:Hid (Below w7.heap.size w7 ((w20.setCell ⟨bf,0,none⟩ (.slice aT (kAt F (at_+d+1)).length cT)).setCell ⟨bf,1,none⟩ (.slice aV (kAt F (at_+d+1)).length cV))):=jH ((((HBl.out.trans (HBq.out.mono HBl.out.size)).trans (hb.mono (Nat.le_trans HBl.out.size HBq.out.size))).setCell (p:=⟨bf,0,none⟩) (by show _≤bf;rw[HBf.out];exact Nat.le_refl _) _).setCell (p:=⟨bf,1,none⟩) (by show _≤bf;rw[HBf.out];exact Nat.le_refl _) _);clear hxe hxe2 x1 y1 y2 g1 hb p0 p1;generalize (kAt F (at_+d+1)).length=nn at*;go_wp2
          go_roundw
          case rel=>exact⟨at_+d+1,by omega,by go_num,⟨_,_,HG.out⟩,HB4.out⟩
          case measure=>simp[intOf];omega
         ·have n1:¬s.f≤(at_:Int):=by omega
          have hh:kFd (at_:Nat) s=false:=decide_eq_false (by omega);go_wp2
          go_roundw
          case rel=>exact⟨m+1,s.f - 1,by omega,by go_num,rfl,rfl,by omega,by omega,HNo2.out hh,HAh2.out (s.f - 1) (by omega) (fun _=>by omega),HBm.out.alloc HBm.out.size _⟩
          case measure=>simp[intOf];omega
         ·have n1:¬s.f≤(at_:Int):=by omega
          have hh:kFd (at_:Nat) s=false:=decide_eq_false (by omega);go_wp2
          go_roundw
          case rel=>exact⟨m+1,to,by omega,by go_num,rfl,rfl,by omega,by omega,HNo2.out hh,HAh2.out to (by omega) (fun _=>by omega),HBm.out.alloc HBm.out.size _⟩
          case measure=>simp[intOf];omega
         ·have n1:¬(at_:Int)<s.f:=by omega
          have hh:kFd (at_:Nat) s=false:=decide_eq_false (by omega);go_wp2
          go_roundw
          case rel=>exact⟨m+1,to,by omega,by go_num,rfl,rfl,by omega,by omega,HNo2.out hh,HAh2.out to (by omega) (fun h=>by omega),HBm.out.alloc HBm.out.size _⟩
          case measure=>simp[intOf];omega
        ·obtain rfl:m=i:=by omega
         have HCon:Hid (∀r:Nat,(at_:Int)≤r→(r:Int)≤to→fS rest l r=rest):=jH (kMf (by omega) (fun j h=>HNo.out j h (by rw[←HL.out];exact h)) (fun j h=>HAh.out j h (by rw[←HL.out];exact h)));have HBq:=HBm
         obtain⟨d,hd⟩:∃d:Nat,to=((at_+d:Nat):Int):=⟨(to - at_).toNat,by omega⟩
         have hd2:at_+d≤1114111:=by omega
         have HRun:=jH (kI8 (F:=F) (at_:=at_) (v:=rest) d (fun r h1 h2=>by rw[HF.out];exact HCon.out r (by omega) (by omega)));have x0:=(HBq.out.block bf (jL HXy.out)).trans HXy.out;have p0:=jK wr bf 0 _ _ (0,0) x0;have p1:=jK wr bf 1 _ _ (0,0) x0;simp at p0 p1
         have X0:=jH x0;clear x0
         rw[hd];clear hd
         go_wp2_with fail
         refine(kKl wr (.agg #[x,y]) (kAt F at_) ((at_+d:Nat):Int) rest (by have:=kC6 F at_;omega) (HFn.out.below HBq.out)).mono ?_;rintro e w20 ⟨fv,rfl,hf,hb⟩;rw[HRun.out]at hf;have HF2:=jH hf;obtain⟨aT,cT,aV,cV,rfl, -⟩:=hf;obtain⟨aT0,cT0,aV0,cV0,hxe, -⟩:=HFn.out
         have hxe2:x= .slice aT0 (kAt F at_).length cT0∧y= .slice aV0 (kAt F at_).length cV0:=by simpa using hxe
         have x1:=(hb.block bf (jL X0.out)).trans X0.out;have p2:=jK w20 bf 0 _ _ (0,0) x1;have p3:=jK w20 bf 1 _ _ (0,0) x1;have f2:=jO w20 bf 0 _ _ x1;have f3:=jO w20 bf 1 _ _ x1;simp at p2 p3;have y1:=jP w20 bf 0 _ _ (.slice aT (kAt F (at_+d+1)).length cT) x1;have y2:=jP _ bf 1 _ _ (.slice aV (kAt F (at_+d+1)).length cV) y1
         have g1:=(HF2.out.box x1 (fun k z e=>by rw[hxe2.1]at e;cases e) (fun k z e=>by rw[hxe2.2]at e;cases e) 0 (.slice aT (kAt F (at_+d+1)).length cT)).box y1 (fun k z e=>by cases e) (fun k z e=>by
          have:y= .int k z:=e
          rw[hxe2.2]at this;cases this) 1 (.slice aV (kAt F (at_+d+1)).length cV)
         have HG:=jH (And.intro y2 g1);have HB4:Hid (Below w7.heap.size w7 ((w20.setCell ⟨bf,0,none⟩ (.slice aT (kAt F (at_+d+1)).length cT)).setCell ⟨bf,1,none⟩ (.slice aV (kAt F (at_+d+1)).length cV))):=jH ((((HBl.out.trans (HBq.out.mono HBl.out.size)).trans (hb.mono (Nat.le_trans HBl.out.size HBq.out.size))).setCell (p:=⟨bf,0,none⟩) (by show _≤bf;rw[HBf.out];exact Nat.le_refl _) _).setCell (p:=⟨bf,1,none⟩) (by show _≤bf;rw[HBf.out];exact Nat.le_refl _) _);clear hxe hxe2 x1 y1 y2 g1 hb p0 p1;generalize (kAt F (at_+d+1)).length=nn at*;go_wp2
         go_roundw
         case rel=>exact⟨at_+d+1,by omega,by go_num,⟨_,_,HG.out⟩,HB4.out⟩
         case measure=>simp[intOf];omega
      ·obtain rfl:at_=1114112:=by omega
       have x0:=HXy.out;have p0:=jK wr bf 0 _ _ (0,0) x0;have p1:=jK wr bf 1 _ _ (0,0) x0;simp at p0 p1;have hbw:=HBe.out.trans (HBl.out.mono HBe.out.size);have x1:=(hbw.block b0 (by have:=HZ.out;omega)).trans HA.out;have p2:=jK wr b0 0 _ _ (0,0) x1;have p3:=jK wr b0 1 _ _ (0,0) x1;have f2:=jO wr b0 0 _ _ x1;have f3:=jO wr b0 1 _ _ x1;simp at p2 p3
       have X1:=jH x1;have HBw:=jH hbw
       obtain⟨aT0,cT0,aV0,cV0,hxe, -⟩:=HFn.out
       have hxe2:x= .slice aT0 (kAt F 1114112).length cT0∧y= .slice aV0 (kAt F 1114112).length cV0:=by simpa using hxe
       clear x0 x1 hbw hxe;generalize (kAt F 1114112).length=nn at*;obtain⟨rfl,rfl⟩:=hxe2;go_wp2
       have y1:=jP wr b0 0 _ _ (.slice aT0 nn cT0) X1.out;have y2:=jP _ b0 1 _ _ (.slice aV0 nn cV0) y1;have r0:((wr.setCell ⟨b0,0,none⟩ (.slice aT0 nn cT0)).setCell ⟨b0,1,none⟩ (.slice aV0 nn cV0)).cell? ⟨b0,0,none⟩=some (.slice aT0 nn cT0):=jK _ b0 0 _ _ (0,0) y2;have r1:((wr.setCell ⟨b0,0,none⟩ (.slice aT0 nn cT0)).setCell ⟨b0,1,none⟩ (.slice aV0 nn cV0)).cell? ⟨b0,1,none⟩=some (.slice aV0 nn cV0):=jK _ b0 1 _ _ (0,0) y2;have g1:=(HFn.out.box X1.out (fun k z e=>by cases e) (fun k z e=>by cases e) 0 (.slice aT0 nn cT0)).box y1 (fun k z e=>by cases e) (fun k z e=>by cases e) 1 (.slice aV0 nn cV0);refine jS (v:= .tuple #[.agg #[.slice aT0 nn cT0,.slice aV0 nn cV0],.int .i64 0,.int .i64 0]) (by simp[results,Try.results34,go_sem,r0,r1]) rfl ?_;refine⟨?_,_,.inr (.inr ⟨HOk.out,rfl,by rw[←HF.out];exact g1⟩)⟩;exact((HB.out.trans (HBw.out.mono HB.out.size)).setCell (p:=⟨b0,0,none⟩) (by show _≤b0;have:=HBz.out;omega) _).setCell (p:=⟨b0,1,none⟩) (by show _≤b0;have:=HBz.out;omega) _
end Go.Proofs.Ytabbabkmojaoaaa

namespace Go.Proofs.Ytabbabkmojaoaaa
theorem kG3 (L:List (Int×Int))(t v:Int):(∃x,L=L.dropLast++[x]∧x.2=v∧kF0 L t v=L.dropLast++[(t,v)])∨kF0 L t v=L++[(t,v)]:=by
 unfold kF0
 cases h:L.getLast? with
 | none=>exact .inr (by rw[List.getLast?_eq_none_iff.1 h];rfl)
 | some x=>
  simp only
  by_cases e:x.2=v
  ·rw[if_pos e];obtain⟨hne,e2⟩:=List.getLast?_eq_some_iff.1 h;exact .inl ⟨x,by rw[e2];simp,e,rfl⟩
  ·rw[if_neg e];exact .inr rfl
theorem kF8 (F:Nat→Int):∀n,∀x∈kAt F n,x.1<(n:Int)
 | 0,x,h=>by simp[kAt]at h
 | n+1,x,h=>by
  have ih:=kF8 F n;rw[kAt]at h
  rcases kG3 (kAt F n) (n:Nat) (F n)with⟨y,h1,h2,h3⟩ | h3
  ·rw[h3]at h
   rcases List.mem_append.1 h with h | h
   ·have:=ih x (List.dropLast_subset _ h);omega
   ·rw[List.mem_singleton.1 h];simp only;omega
  ·rw[h3]at h
   rcases List.mem_append.1 h with h | h
   ·have:=ih x h;omega
   ·rw[List.mem_singleton.1 h];simp only;omega
theorem kHo (F:Nat→Int):∀n r,r<n→∃A x B,kAt F n=A++x :: B∧(∀y∈A,y.1<(r:Int))∧(r:Int)≤x.1∧x.2=F r
 | 0,r,h=>absurd h (Nat.not_lt_zero _)
 | n+1,r,h=>by
  have ih:=kHo F n;have hlt:=kF8 F n;rw[kAt]
  rcases kG3 (kAt F n) (n:Nat) (F n)with⟨y,h1,h2,h3⟩ | h3
  ·rw[h3]
   by_cases e:r=n
   ·subst e;exact⟨_,(_,_),[],rfl,fun z hz=>hlt z (List.dropLast_subset _ hz),Int.le_refl _,rfl⟩
   ·obtain⟨A,x,B,k1,k2,k3,k4⟩:=ih r (by omega);rw[h1]at k1
    rcases List.append_eq_append_iff.1 k1 with⟨C,e1,e2⟩ | ⟨C,e1,e2⟩
    ·cases C with
     | nil=>
      rw[List.nil_append]at e2
      have:y=x:=by simpa using (List.cons.inj e2).1
      subst this;refine⟨A,((n:Int),F n),[],?_,k2,by simp only;omega,by simp only;rw[←h2,k4]⟩
      rw[e1];simp
     | cons z C=>
      have:=congrArg List.length e2;simp at this
    ·cases C with
     | nil=>
      rw[List.nil_append]at e2
      have:x=y:=by simpa using (List.cons.inj e2).1
      subst this;refine⟨A,((n:Int),F n),[],?_,k2,by simp only;omega,by simp only;rw[←h2,k4]⟩
      rw[e1];simp
     | cons z C=>
      obtain⟨e3,e4⟩:=List.cons.inj e2;subst e3;exact⟨A,x,C++[((n:Int),F n)],by rw[e1];simp,k2,k3,k4⟩
  ·rw[h3]
   by_cases e:r=n
   ·subst e;exact⟨_,(_,_),[],rfl,hlt,Int.le_refl _,rfl⟩
   ·obtain⟨A,x,B,k1,k2,k3,k4⟩:=ih r (by omega);exact⟨A,x,B++[((n:Int),F n)],by rw[k1];simp,k2,k3,k4⟩
end Go.Proofs.Ytabbabkmojaoaaa

namespace Go.Proofs.Ytabbabkmojaoaaa
open Go.RowKit
attribute [local go_sem] Oper.semAt_some
def AtR (m:Nat) (w2:World) (iv:Value) (wr:World):Prop:=∃k:Nat,k≤m∧iv= .int .i64 (k:Nat)∧wr=w2
theorem kH7 (w:World)(fv:Value)(F:Nat→Int)(N:Nat)(hN:N=1114112)(hf:kH9 w fv (kAt F N))(r:Int)(hr1: -2147483648≤r)(hr2:r≤2147483647):
  Calls Try.prog 81 #[fv,.int .i32 r] w fun e w'=>e= .returned (.int .i64 (F (kDe r)))∧Below w.heap.size w w':=by
 obtain⟨aT,cT,aV,cV,rfl,hT,hV, -, -⟩:=hf
 obtain⟨q,hq⟩:∃q:Nat,q=kDe r:=⟨_,rfl⟩
 have hql:q≤1114111:=by rw[hq];exact kFk r
 rw[←hq];obtain⟨A,x,B,k1,k2,k3,k4⟩:=kHo F N q (by omega);have hle:=kC6 F N
 have hlen:(kAt F N).length=A.length+1+B.length:=by rw[k1];simp;omega
 have hAx:(kAt F N)[A.length]? =some x:=by rw[k1];simp
 have hAj:∀j,j<A.length→∃y,(kAt F N)[j]? =some y∧y.1<(q:Int):=fun j hj=>⟨A[j],by rw[k1,List.getElem?_append_left hj,List.getElem?_eq_getElem hj],k2 _ (List.getElem_mem hj)⟩
 obtain⟨n,hn⟩:∃n,n=(kAt F N).length:=⟨_,rfl⟩
 obtain⟨m,hm⟩:∃m,m=A.length:=⟨_,rfl⟩
 rw[←hn]at hlen hle ⊢;rw[←hm]at hlen hAx hAj
 have HT:=jH hT;have HV:=jH hV;have HAx:=jH hAx;have HAj:=jH hAj;have HNn:=jH hn;have HQ:=jH hq
 have HK:=jH (And.intro k3 k4);have HSz:=jH (show m<n∧n≤1114112 by omega);clear hT hV hAx hAj hn hq k1 k2 k3 k4 hlen hle hm;have HA:=jH (jN w (.cells #[.slice aT n cT,.slice aV n cV] 63));have HB:=jH ((Below.refl _ w).alloc jR (.cells #[.slice aT n cT,.slice aV n cV] 63))
 go_enter Try.func81,Try.ntmps81
 go_upto_region 1 with(fail)
 generalize w.alloc (.cells #[.slice aT n cT,.slice aV n cV] 63)=w2 at*
 obtain⟨b0,hb0⟩:∃b0,b0=w.heap.size:=⟨_,rfl⟩
 rw[←hb0]at HA ⊢;have q0:=jK w2 b0 0 _ _ (0,0) HA.out;have q1:=jK w2 b0 1 _ _ (0,0) HA.out;simp at q0 q1
 have HBz:=jH hb0;clear hb0
 have HT2:=jH (HT.out.below HB.out jR);have HV2:=jH (HV.out.below HB.out jR)
 have hcs:r<0∧q=65533∨(¬r<0∧1114111<r)∧q=65533∨(¬r<0∧¬1114111<r)∧(q:Int)=r:=by
  rw[HQ.out];unfold kDe
  by_cases h:r<0∨1114111<r
  ·rw[if_pos h];omega
  ·rw[if_neg h];omega
 rcases hcs with⟨h1,h2⟩ | ⟨⟨h0,h1⟩,h2⟩ | ⟨⟨h0,h1⟩,h2⟩
 ·have h3:(65533:Int)=(q:Int):=by omega
  clear h2
  go_upto_region 3 with(fail)
  rw[h3];clear h3;clear HQ;go_wp2
  go_loopw [5] (AtR m w2) (fun i _=>m+1 - (intOf i).toNat)
  case atStart=>exact⟨0,Nat.zero_le _,rfl,rfl⟩
  case round=>
   obtain⟨k,hk,rfl,rfl⟩:=hrel;obtain⟨hmn,hn2⟩:=HSz.out
   have hki:(k:Int)<(n:Int):=by omega
   have hkT:k<((kAt F N).map (·.1)).length:=by rw[List.length_map,←HNn.out];omega
   have hkV:k<((kAt F N).map (·.2)).length:=by rw[List.length_map,←HNn.out];omega
   obtain⟨bT,oT,haT⟩:=HT2.out.some (by omega);obtain⟨bV,oV,haV⟩:=HV2.out.some (by omega);subst haT haV;have c1:=HT2.out.get k hkT;have c2:=HV2.out.get k hkV
   by_cases hkm:k<m
   ·obtain⟨y,hy,hlt⟩:=HAj.out k hkm
    have e1:((kAt F N).map (·.1))[k]=y.1:=by simp only[List.getElem_map];rw[(List.getElem?_eq_some_iff.1 hy).2]
    rw[e1]at c1
    have hnle:¬(q:Int)≤y.1:=by omega
    clear hkT hkV c2 e1 hy;go_wp2
    go_roundw
    case rel=>exact⟨k+1,by omega,by go_num,rfl⟩
    case measure=>simp[intOf];omega
   ·obtain rfl:k=m:=by omega
    have e1:((kAt F N).map (·.1))[k]=x.1:=by simp only[List.getElem_map];rw[(List.getElem?_eq_some_iff.1 HAx.out).2]
    have e2:((kAt F N).map (·.2))[k]=x.2:=by simp only[List.getElem_map];rw[(List.getElem?_eq_some_iff.1 HAx.out).2]
    rw[e1]at c1;rw[e2,HK.out.2]at c2;have hle:=HK.out.1;clear hkT hkV e1 e2;go_wp2
    go_ret
    exact⟨rfl,HB.out⟩
 ·have h3:(65533:Int)=(q:Int):=by omega
  clear h2
  go_upto_region 3 with(fail)
  rw[h3];clear h3;clear HQ;go_wp2
  go_loopw [5] (AtR m w2) (fun i _=>m+1 - (intOf i).toNat)
  case atStart=>exact⟨0,Nat.zero_le _,rfl,rfl⟩
  case round=>
   obtain⟨k,hk,rfl,rfl⟩:=hrel;obtain⟨hmn,hn2⟩:=HSz.out
   have hki:(k:Int)<(n:Int):=by omega
   have hkT:k<((kAt F N).map (·.1)).length:=by rw[List.length_map,←HNn.out];omega
   have hkV:k<((kAt F N).map (·.2)).length:=by rw[List.length_map,←HNn.out];omega
   obtain⟨bT,oT,haT⟩:=HT2.out.some (by omega);obtain⟨bV,oV,haV⟩:=HV2.out.some (by omega);subst haT haV;have c1:=HT2.out.get k hkT;have c2:=HV2.out.get k hkV
   by_cases hkm:k<m
   ·obtain⟨y,hy,hlt⟩:=HAj.out k hkm
    have e1:((kAt F N).map (·.1))[k]=y.1:=by simp only[List.getElem_map];rw[(List.getElem?_eq_some_iff.1 hy).2]
    rw[e1]at c1
    have hnle:¬(q:Int)≤y.1:=by omega
    clear hkT hkV c2 e1 hy;go_wp2
    go_roundw
    case rel=>exact⟨k+1,by omega,by go_num,rfl⟩
    case measure=>simp[intOf];omega
   ·obtain rfl:k=m:=by omega
    have e1:((kAt F N).map (·.1))[k]=x.1:=by simp only[List.getElem_map];rw[(List.getElem?_eq_some_iff.1 HAx.out).2]
    have e2:((kAt F N).map (·.2))[k]=x.2:=by simp only[List.getElem_map];rw[(List.getElem?_eq_some_iff.1 HAx.out).2]
    rw[e1]at c1;rw[e2,HK.out.2]at c2;have hle:=HK.out.1;clear hkT hkV e1 e2;go_wp2
    go_ret
    exact⟨rfl,HB.out⟩
 ·go_upto_region 3 with(fail)
  rw[←h2];clear h2;clear HQ;go_wp2
  go_loopw [5] (AtR m w2) (fun i _=>m+1 - (intOf i).toNat)
  case atStart=>exact⟨0,Nat.zero_le _,rfl,rfl⟩
  case round=>
   obtain⟨k,hk,rfl,rfl⟩:=hrel;obtain⟨hmn,hn2⟩:=HSz.out
   have hki:(k:Int)<(n:Int):=by omega
   have hkT:k<((kAt F N).map (·.1)).length:=by rw[List.length_map,←HNn.out];omega
   have hkV:k<((kAt F N).map (·.2)).length:=by rw[List.length_map,←HNn.out];omega
   obtain⟨bT,oT,haT⟩:=HT2.out.some (by omega);obtain⟨bV,oV,haV⟩:=HV2.out.some (by omega);subst haT haV;have c1:=HT2.out.get k hkT;have c2:=HV2.out.get k hkV
   by_cases hkm:k<m
   ·obtain⟨y,hy,hlt⟩:=HAj.out k hkm
    have e1:((kAt F N).map (·.1))[k]=y.1:=by simp only[List.getElem_map];rw[(List.getElem?_eq_some_iff.1 hy).2]
    rw[e1]at c1
    have hnle:¬(q:Int)≤y.1:=by omega
    clear hkT hkV c2 e1 hy;go_wp2
    go_roundw
    case rel=>exact⟨k+1,by omega,by go_num,rfl⟩
    case measure=>simp[intOf];omega
   ·obtain rfl:k=m:=by omega
    have e1:((kAt F N).map (·.1))[k]=x.1:=by simp only[List.getElem_map];rw[(List.getElem?_eq_some_iff.1 HAx.out).2]
    have e2:((kAt F N).map (·.2))[k]=x.2:=by simp only[List.getElem_map];rw[(List.getElem?_eq_some_iff.1 HAx.out).2]
    rw[e1]at c1;rw[e2,HK.out.2]at c2;have hle:=HK.out.1;clear hkT hkV e1 e2;go_wp2
    go_ret
    exact⟨rfl,HB.out⟩
end Go.Proofs.Ytabbabkmojaoaaa

namespace Go.Proofs.Ytabbabkmojaoaaa
open Go.RowKit
attribute [local go_sem] Oper.semAt_some
end Go.Proofs.Ytabbabkmojaoaaa
