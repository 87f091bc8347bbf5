/- several texts in one: CN WG WH -/
import Derived.Test.YtabbabkmojaoaaaNN
import Derived.Test.YtabbabkmojaoaaaNJ
import Derived.Test.YtabbabkmojaoaaaNK
import Derived.Test.YtabbabkmojaoaaaNB
set_option linter.unusedVariables false
set_option linter.unusedSimpArgs false
set_option maxRecDepth 100000
set_option maxHeartbeats 16000000
namespace Go.Proofs.Ytabbabkmojaoaaa
theorem kAp (many:Nat)(ag:Nat→Bool):∀(l l':List Nat) (n:Nat),kAq many ag (l++l') n=(kAq many ag l n).bind (fun m=>kAq many ag l' m)
 | [],l',n=>rfl
 | x :: l,l',n=>by
  rw[List.cons_append,kAq,kAq]
  split
  ·exact kAp many ag l l' (n+1)
  ·split
   ·rfl
   ·exact kAp many ag l l' n
theorem kCb {many:Nat}{ag:Nat→Bool}:∀ {l:List Nat} {n m:Nat},kAq many ag l n=some m→n≤m∧∀x∈l,x<m
 | [],n,m,h=>by simp only[kAq,Option.some.injEq]at h;exact⟨by omega,fun x hx=>by simp at hx⟩
 | y :: l,n,m,h=>by
  rw[kAq]at h
  split at h
  ·rename_i hc
   obtain⟨h1,h2⟩:=kCb h;refine⟨by omega,fun x hx=> ?_⟩
   rcases List.mem_cons.1 hx with rfl | hx
   ·omega
   ·exact h2 x hx
  ·split at h
   ·cases h
   ·rename_i hc hd
    obtain⟨h1,h2⟩:=kCb h;refine⟨h1,fun x hx=> ?_⟩
    rcases List.mem_cons.1 hx with rfl | hx
    ·have:¬n≤x:=fun e=>hd (.inl e)
     omega
    ·exact h2 x hx
theorem kC5 (many:Nat):∀(l:List Nat) (n:Nat),(∀x∈l,x<n)→kAq many (fun _=>true) l n=some n
 | [],n,_=>rfl
 | x :: l,n,h=>by
  have hx:=h x (by simp);rw[kAq,if_neg (by omega),if_neg (by simp;omega)];exact kC5 many l n (fun y hy=>h y (by simp[hy]))
theorem kCh (many n x:Nat)(h:x<n):kAq many (fun _=>true) [x] n=some n:=kC5 many [x] n (fun y hy=>by rw[List.mem_singleton.1 hy];exact h)
theorem kCg (many n:Nat)(h:n<many):kAq many (fun _=>true) [n] n=some (n+1):=by rw[kAq,if_pos ⟨rfl,h⟩];rfl
theorem kB2 {many many':Nat}(h:many≤many'):∀ {l:List Nat} {n m:Nat},kAq many (fun _=>true) l n=some m→kAq many' (fun _=>true) l n=some m
 | [],n,m,e=>e
 | x :: l,n,m,e=>by
  rw[kAq]at e ⊢
  split at e
  ·rename_i hc
   rw[if_pos ⟨hc.1,by omega⟩];exact kB2 h e
  ·rename_i hc
   split at e
   ·cases e
   ·rename_i hd
    have hx:x<n:=by
     have:¬n≤x:=fun e=>hd (.inl e)
     omega
    rw[if_neg (by omega),if_neg hd];exact kB2 h e
theorem kDs {β:Type} [DecidableEq β] {L:List (List β)}{b:List β}(hL:∀m∈L,m.length=b.length):
  (∃k,k<L.length∧L[k]? =some b∧kBe (fun x y=>decide (x=y)) L b=(L,k))∨(b∉L∧kBe (fun x y=>decide (x=y)) L b=(L++[b],L.length)):=by
 unfold kBe
 cases h:kAo (fun x y=>decide (x=y)) b L with
 | some k=>
  have h1:=kDq hL h;exact .inl ⟨k,(List.getElem?_eq_some_iff.1 h1).1,h1,rfl⟩
 | none=>exact .inr ⟨kDp hL h,rfl⟩
structure CanI (k:Nat) (S:MkS Int):Prop where
 low:kAq S.lows.length (fun _=>true) (S.mids.flatten++S.cur.take (k % 64)) 0=some S.lows.length
 top:kAq S.mids.length (fun _=>true) (S.top.take (k / 64)) 0=some S.mids.length
theorem canI (f:Nat→Int):∀k,k≤17408→CanI k (mkF f k):=by
 intro k
 induction k with
 | zero=>intro _;exact⟨rfl,rfl⟩
 | succ k ih=>
  intro hk;obtain⟨h1,h2⟩:=ih (by omega);obtain⟨hw,hb, -, -⟩:=kC4 f k
  obtain⟨S,hS⟩:∃S,S=mkF f k:=⟨_,rfl⟩
  rw[mkF,←hS];rw[←hS]at h1 h2 hw hb
  have hcl:k % 64<S.cur.length:=by rw[hw.cur];omega
  -- the low block
  have hN:∃x L',kBe eq8 S.lows (blkF f k)=(L',x)∧kAq L'.length (fun _=>true) (S.mids.flatten++(S.cur.set (k % 64) x).take (k % 64+1)) 0=some L'.length:=by
   have e:(S.cur.set (k % 64) ·)=fun x=>S.cur.set (k % 64) x:=rfl
   have hset:∀x,(S.cur.set (k % 64) x).take (k % 64+1)=S.cur.take (k % 64)++[x]:=fun x=>by
    rw[List.take_succ_eq_append_getElem (by simpa using hcl)];simp[List.take_set];exact List.set_eq_of_length_le (by simp;omega)
   rcases kDs (L:=S.lows) (b:=blkF f k) (fun m hm=>by rw[hw.low m hm,kAu])with⟨x,hx, -,h⟩ | ⟨-,h⟩
   ·refine⟨x,S.lows,h,?_⟩;rw[hset,←List.append_assoc,kAp,h1];exact kCh _ _ _ hx
   ·refine⟨S.lows.length,S.lows++[blkF f k],h,?_⟩;rw[hset,←List.append_assoc,kAp,List.length_append,List.length_singleton,kB2 (Nat.le_succ _) h1];exact kCg _ _ (by omega)
  obtain⟨x,L',hN1,hN2⟩:=hN
  by_cases hf:(k+1) % 64=0
  ·have hq:(k+1) / 64=k / 64+1:=by omega
   have h63:k % 64+1=64:=by omega
   have hcl2:(S.cur.set (k % 64) x).length=64:=by simpa using hw.cur
   rw[h63,List.take_of_length_le (by omega)]at hN2;rw[kBi (by rw[hb];exact hf)];simp only[hb,hN1]
   have htl:k / 64<S.top.length:=by rw[hw.top];omega
   have htop:∀y,(S.top.set (k / 64) y).take ((k+1) / 64)=S.top.take (k / 64)++[y]:=fun y=>by
    rw[hq,List.take_succ_eq_append_getElem (by simpa using htl)];simp[List.take_set];exact List.set_eq_of_length_le (by simp;omega)
   rcases kDs (L:=S.mids) (b:=S.cur.set (k % 64) x) (fun m hm=>by rw[hw.mid m hm,hcl2])with⟨y,hy,hyb,h⟩ | ⟨hnot,h⟩
   ·have h':kBe kDl S.mids (S.cur.set (k % 64) x)=(S.mids,y):=h;rw[h']
    refine⟨?_,?_⟩
    ·simp only[hf,List.take_zero,List.append_nil]
     -- the row is an old one:it names no new block
     have h3:∃n',kAq L'.length (fun _=>true) S.mids.flatten 0=some n':=by
      rw[kAp]at hN2
      cases e:kAq L'.length (fun _=>true) S.mids.flatten 0 with
      | none=>rw[e]at hN2;cases hN2
      | some n'=>exact⟨n',rfl⟩
     obtain⟨n',hn'⟩:=h3;have h4:=(kCb hn').2;have h5:kAq L'.length (fun _=>true) (S.cur.set (k % 64) x) n'=some n':=kC5 _ _ _ (fun z hz=>h4 z (List.mem_flatten.2 ⟨_,List.mem_of_getElem? hyb,hz⟩));rw[kAp,hn']at hN2;rw[hn',←hN2];exact h5.symm
    ·simp only[htop];rw[kAp,h2];exact kCh _ _ _ hy
   ·have h':kBe kDl S.mids (S.cur.set (k % 64) x)=(S.mids++[S.cur.set (k % 64) x],S.mids.length):=h;rw[h']
    refine⟨?_,?_⟩
    ·simp only[hf,List.take_zero,List.append_nil,List.flatten_append,List.flatten_cons,List.flatten_nil];exact hN2
    ·simp only[htop];rw[kAp,List.length_append,List.length_singleton,kB2 (Nat.le_succ _) h2];exact kCg _ _ (by omega)
  ·have hq:(k+1) / 64=k / 64:=by omega
   have hm:(k+1) % 64=k % 64+1:=by omega
   rw[kBj (by rw[hb];exact hf)];simp only[hb,hN1]
   refine⟨?_,?_⟩
   ·simp only[hm];exact hN2
   ·simp only[hq];exact h2
theorem kDo {β:Type}(L:List (List β))(hl:∀l∈L,l.length=64):(List.range L.length).map (fun q=>(L.flatten.drop (64*q)).take 64)=L:=by
 induction L with
 | nil=>rfl
 | cons l L ih=>
  have h1:=hl l (by simp);rw[List.length_cons,List.range_succ_eq_map,List.map_cons,List.map_map]
  congr 1
  ·rw[List.flatten_cons,Nat.mul_zero,List.drop_zero,List.take_left' h1]
  ·rw[show(fun q=>List.take 64 (List.drop (64*q) (List.flatten (l :: L)))) ∘ Nat.succ=fun q=>List.take 64 (List.drop (64*q) L.flatten)from by
    funext q
    simp only[Function.comp,List.flatten_cons]
    rw[show 64*q.succ=l.length+64*q by rw[h1];omega,←List.drop_drop,List.drop_left]]
   exact ih (fun l hl2=>hl l (by simp[hl2]))
theorem kGu {β:Type} [DecidableEq β] {L:List (List β)}(hl:∀l∈L,l.length=64):(∀k (h:k<L.length),k<L.length→kAo (fun a b=>decide (a=b)) L[k] (L.take k)=none)↔L.Nodup:=by
 constructor
 ·intro h;rw[List.nodup_iff_pairwise_ne,List.pairwise_iff_getElem];intro i j hi hj hij e;have h1:=kDp (fun m hm=>by rw[hl m (List.mem_of_mem_take hm),hl _ (List.getElem_mem hj)]) (h j hj hj);exact h1 (by rw[←e,List.mem_take_iff_getElem];exact⟨i,by omega,rfl⟩)
 ·intro h k hk _
  cases e:kAo (fun a b=>decide (a=b)) L[k] (L.take k)with
  | none=>rfl
  | some i=>
   have h1:=kDq (fun m hm=>by rw[hl m (List.mem_of_mem_take hm),hl _ (List.getElem_mem hk)]) e;obtain⟨hi,h2⟩:=List.getElem?_eq_some_iff.1 h1;rw[List.length_take]at hi;rw[List.getElem_take]at h2;exact absurd h2 (List.pairwise_iff_getElem.1 (List.nodup_iff_pairwise_ne.1 h) i k (by omega) hk (by omega))
theorem kBu.fromOk {f:Nat→Int}{S:MkS Int}(hS:kBu f S):kCd S.top S.mids.flatten S.lows.flatten∧kFt S.top S.mids.flatten S.lows.flatten=kA1 S:=by
 have hp:=hS.pos;have hm:=kDa S.mids hS.made.ok.mid;have hl:=kDa S.lows hS.made.ok.low
 have em:S.mids.flatten.length / 64=S.mids.length:=by omega
 have el:S.lows.flatten.length / 64=S.lows.length:=by omega
 have cm:VN.cksL S.mids.flatten S.mids.length=S.mids:=kDo S.mids hS.made.ok.mid;have cl:cksL S.lows.flatten S.lows.length=S.lows:=kDo S.lows hS.made.ok.low;have hml:=hS.ml;have hll:=hS.ll;obtain⟨K,hK,hSK⟩:=hS.eq;have hc:=canI f K (by omega);rw[←hSK]at hc;have hc1:=hc.low;have hc2:=hc.top;rw[show K % 64=0 by omega,List.take_zero,List.append_nil]at hc1;rw[show K / 64=272 by omega,List.take_of_length_le (by rw[hS.made.ok.top];exact Nat.le_refl _)]at hc2
 refine⟨⟨hS.made.ok.top,by omega,by omega,by omega,by omega,by omega,by omega,by rw[el];exact hc1,by rw[em];exact hc2,?_,?_⟩,?_⟩
 ·rw[el,cl];exact(kGu hS.made.ok.low).2 hS.nl
 ·rw[em,cm];exact(kGu hS.made.ok.mid).2 hS.made.inv.nm
 ·unfold kFt kA1;rw[em,el,cm,cl]
end Go.Proofs.Ytabbabkmojaoaaa

namespace Go.Proofs.Ytabbabkmojaoaaa
open Go.RowKit
attribute [local go_sem] Oper.semAt_some
def kJ1 (L:List (Int×Int)) (i r:Nat):Prop:=∀j (h:j<L.length),j<i→(L[j]).1<(r:Int)
theorem kJ1.zero (L:List (Int×Int))(r:Nat):kJ1 L 0 r:=fun j _ h=>by omega
theorem kJ1.mono {L:List (Int×Int)}{i r r':Nat}(h:kJ1 L i r)(hr:r≤r'):kJ1 L i r':=fun j hj hi=>by have:=h j hj hi;omega
theorem kJ1.next {L:List (Int×Int)}{i r:Nat}(h:kJ1 L i r)(hi:i<L.length)(h2:(L[i]).1<(r:Int)):kJ1 L (i+1) r:=fun j hj hji=>by
 by_cases e:j=i
 ·subst e;exact h2
 ·exact h j hj (by omega)
theorem kKd {F:Nat→Int}{N r i:Nat}(hr:r<N)(h:kJ1 (kAt F N) i r):i<(kAt F N).length:=by
 obtain⟨A,x,B,k1,k2,k3,k4⟩:=kHo F N r hr
 by_cases hi:i<(kAt F N).length
 ·exact hi
 ·have hl:A.length<(kAt F N).length:=by rw[k1];simp
  have:=h A.length hl (by omega);simp only[k1]at this;rw[List.getElem_append_right (by omega)]at this;simp at this;omega
theorem kKy {F:Nat→Int}{N r i:Nat}(hr:r<N)(h:kJ1 (kAt F N) i r)(hi:i<(kAt F N).length)(h2:(r:Int)≤((kAt F N)[i]).1):((kAt F N)[i]).2=F r:=by
 obtain⟨A,x,B,k1,k2,k3,k4⟩:=kHo F N r hr
 have hl:A.length<(kAt F N).length:=by rw[k1];simp
 have hAx:(kAt F N)[A.length]=x:=by simp only[k1];rw[List.getElem_append_right (by omega)];simp
 rcases Nat.lt_trichotomy i A.length with e | e | e
 ·have:(kAt F N)[i]∈A:=by simp only[k1];rw[List.getElem_append_left e];exact List.getElem_mem e
  have:=k2 _ this;omega
 ·subst e;rw[hAx];exact k4
 ·have:=h A.length hl e;rw[hAx]at this;omega
theorem kLx {F:Nat→Int}{N k i:Nat}(hk:64*k+63<N)(h:kJ1 (kAt F N) i (64*k))(hi:i<(kAt F N).length)(h2:((64*k:Nat):Int)+63≤((kAt F N)[i]).1):blkF F k=List.replicate 64 ((kAt F N)[i]).2:=by
 apply List.ext_getElem
 ·rw[kAu];simp
 ·intro j h3 h4;rw[kAu]at h3;have:=kKy (F:=F) (N:=N) (r:=64*k+j) (by omega) (h.mono (by omega)) hi (by omega);rw[List.getElem_replicate,this];simp[blkF]
theorem kNj {β:Type} [DecidableEq β] {L:List (List β)}(hL:L.Nodup){b:List β}(hl:∀m∈L,m.length=b.length){q:Nat}(hq:L[q]? =some b):kAo (fun x y=>decide (x=y)) b L=some q∧kBe (fun x y=>decide (x=y)) L b=(L,q):=by
 have:kAo (fun x y=>decide (x=y)) b L=some q:=by
  cases h:kAo (fun x y=>decide (x=y)) b L with
  | none=>exact absurd (List.mem_iff_getElem?.2 ⟨q,hq⟩) (kDp hl h)
  | some j=>
   have:=kDq hl h;rw[kMb hL this hq]
 exact⟨this,by unfold kBe;rw[this]⟩
def noF (F:Nat→Int) (k:Nat):Nat:=(kBe eq8 (mkF F k).lows (blkF F k)).2
def kG4 (F:Nat→Int) (t:Nat):List Nat:=(List.range 64).map (fun j=>noF F (64*t+j))
theorem kEd (F:Nat→Int)(t:Nat):(kG4 F t).length=64:=by simp[kG4]
theorem kHk (F:Nat→Int)(k:Nat):(mkF F (k+1)).lows=(kBe eq8 (mkF F k).lows (blkF F k)).1:=by
 rw[mkF]
 by_cases h:((mkF F k).blocks+1) % 64=0
 ·rw[kBi h]
 ·rw[kBj h]
theorem kNb (F:Nat→Int)(t:Nat):∀j,j≤63→(mkF F (64*t+j)).mids=(mkF F (64*t)).mids∧(mkF F (64*t+j)).top=(mkF F (64*t)).top∧∀i,i<j→(mkF F (64*t+j)).cur[i]? =some (noF F (64*t+i))
 | 0,_=>⟨rfl,rfl,fun i hi=>by omega⟩
 | j+1,hj=>by
  obtain⟨h1,h2,h3⟩:=kNb F t j (by omega);obtain⟨hw,hb, -, -⟩:=kC4 F (64*t+j)
  have hx:¬((mkF F (64*t+j)).blocks+1) % 64=0:=by rw[hb];omega
  have e:mkF F (64*t+(j+1))=kD6 eq8 (mkF F (64*t+j)) (blkF F (64*t+j)):=rfl;rw[e,kBj hx];refine⟨h1,h2,fun i hi=> ?_⟩;show((mkF F (64*t+j)).cur.set ((mkF F (64*t+j)).blocks % 64) _)[i]? =_;rw[hb,show(64*t+j) % 64=j by omega]
  by_cases e:i=j
  ·subst e;rw[List.getElem?_set_self (by rw[hw.cur];omega)]
   rfl
  ·rw[List.getElem?_set_ne (by omega)];exact h3 i (by omega)
theorem kMa (F:Nat→Int)(t:Nat):(mkF F (64*(t+1))).mids=(kBe kDl (mkF F (64*t)).mids (kG4 F t)).1∧(mkF F (64*(t+1))).top=(mkF F (64*t)).top.set t (kBe kDl (mkF F (64*t)).mids (kG4 F t)).2:=by
 obtain⟨h1,h2,h3⟩:=kNb F t 63 jR;obtain⟨hw,hb, -, -⟩:=kC4 F (64*t+63)
 have hx:((mkF F (64*t+63)).blocks+1) % 64=0:=by rw[hb];omega
 have e:mkF F (64*(t+1))=kD6 eq8 (mkF F (64*t+63)) (blkF F (64*t+63)):=by
  rw[show 64*(t+1)=64*t+63+1 by omega];rfl
 have hr:(mkF F (64*t+63)).cur.set ((mkF F (64*t+63)).blocks % 64) (kBe eq8 (mkF F (64*t+63)).lows (blkF F (64*t+63))).2=kG4 F t:=by
  apply List.ext_getElem?
  intro i;rw[hb,show(64*t+63) % 64=63 by omega]
  by_cases h:i<64
  ·have hr:(kG4 F t)[i]? =some (noF F (64*t+i)):=by simp[kG4,h]
   rw[hr]
   by_cases e:i=63
   ·subst e;rw[List.getElem?_set_self (by rw[hw.cur];omega)];rfl
   ·rw[List.getElem?_set_ne (by omega)];exact h3 i (by omega)
  ·rw[List.getElem?_eq_none (by simp[hw.cur];omega),List.getElem?_eq_none (by rw[kEd];omega)]
 rw[e,kBi hx,hr,h1,h2,hb,show(64*t+63) / 64=t by omega];exact⟨rfl,rfl⟩
theorem kMy (F:Nat→Int)(t:Nat)(ht:t<272):((mkF F (64*(t+1))).top.take (t+1))=(mkF F (64*t)).top.take t++[(kBe kDl (mkF F (64*t)).mids (kG4 F t)).2]:=by
 obtain⟨hw, -⟩:=kC4 F (64*t);rw[(kMa F t).2,List.take_add_one,List.take_set_of_le jR,List.getElem?_set_self (by rw[hw.top];omega)]
 rfl
theorem kKb (a b:List Nat):kBr (a++b)=kBr a++kBr b:=by simp[kBr]
def vI (x:Int):Value:= .int .i64 x
def vN (n:Nat):Value:= .int .i64 (n:Int)
theorem Try.kBI:kG6 Try.prog 155 3 64 1 vI (fun a b=>decide (a=b)):=kJs .i64 (fun x:Int=>x) (fun _ _ h=>h) Try.underlying155 Try.underlying3 (by kernel_rfl) (by kernel_rfl)
theorem Try.kBN:kG6 Try.prog 155 3 64 1 vN (fun a b=>decide (a=b)):=kJs .i64 (fun x:Nat=>(x:Int)) (fun _ _ h=>by omega) Try.underlying155 Try.underlying3 (by kernel_rfl) (by kernel_rfl)
theorem kKp (b:List Int):kAf vI b=ivs .i64 b:=by
 induction b with
 | nil=>rfl
 | cons a l ih=>rw[kAf,List.flatMap_cons,←kAf,ih];rfl
theorem kKq (b:List Nat):kAf vN b=ivs .i64 (kBr b):=by
 induction b with
 | nil=>rfl
 | cons a l ih=>rw[kAf,List.flatMap_cons,←kAf,ih];rfl
theorem kJ6 {α:Type}(val:α→Value)(vv:Nat→Value)(L:List (List α)):∀i,(kDd val vv i L).length=L.length:=by
 induction L with
 | nil=>intro i;rfl
 | cons x L ih=>intro i;simp[kDd,ih]
theorem kI1 {α:Type}{val:α→Value}{eqB:α→α→Bool}(K:kG6 Try.prog 155 3 64 1 val eqB)(w:World)(bm:Nat)(L:List (List α))(l:List α)(hl:l.length=64)(hL:∀m∈L,m.length=64)(hn:L.length≤1048576)(h:kBw val vN w bm L):
  Calls Try.prog 80 #[.map (some bm),.agg (kAf val l).toArray] w fun e w'=>e= .returned (.tuple #[.int .i64 ((kBe eqB L l).2:Nat),.bool (kAo eqB l L).isSome])∧w.grownBy w' (some bm)∧kBw val vN w' bm (kBe eqB L l).1:=by
 have hbs:(kAf val l).length=64:=by rw[kAh K.wide,hl]
 have HL:=jH hL;clear hL
 have HM:=jH h;clear h
 have HK:=jH K
 go_enter Try.func80,Try.ntmps80
 go_upto_region 1 with(fail)
 obtain⟨w1,hw1⟩:∃w1,w1=w.alloc (.cells (kAf val l).toArray 155):=⟨_,rfl⟩
 have HB1:Hid (Below w.heap.size w w1):=by rw[hw1];exact jH ((Below.refl _ _).alloc jR _)
 have HR1:Hid (w1.rangeAt w.heap.size 0 (kAf val l)):=by
  rw[hw1];have:=World.rangeAt_of_block (jN w (.cells (kAf val l).toArray 155)) 0 (kAf val l).length
  simpa using jH this
 rw[←hw1];clear hw1
 have hbm:bm<w.heap.size:=(jL HM.out)
 have HM1:Hid (kBw val vN w1 bm L):=jH ((HB1.out.block bm hbm).trans HM.out)
 obtain⟨bb,hbb⟩:∃bb,bb=w.heap.size:=⟨_,rfl⟩
 rw[←hbb]at HR1 ⊢
 have HBb:=jH hbb;clear hbb
 have HLk:=jH (K.lookupG (vv:=vN) (z:= .int .i64 0) (te:=3) Try.underlying153 (fun w=>by kernel_rfl) HM1.out l hl HL.out true);refine wp_region_list ?_;refine kAc (v:= .map (some bm)) (w':=w1) rfl (by rfl) ?_;refine wpList_load_mid rfl 155 (.tmp 3) rfl bb 0 rfl (kAf val l) (.array 64 3) HR1.out Try.underlying155 rfl (by rw[hbs];kernel_rfl) ?_
 cases hf:kAo eqB l L with
 | some k=>
  have hnum:kBe eqB L l=(L,k):=by unfold kBe;rw[hf]
  rw[hf]at HLk;have HLk2:Hid ((Instr.lookup 153 (.map (some bm)) (kEn val l) true).run Try.prog w1= .ok (.tuple #[.int .i64 (k:Nat),.bool true]) w1):=jH HLk.out;refine kAc (v:= .tuple #[.int .i64 (k:Nat),.bool true]) (w':=w1) rfl (kCv 153 (.tmp 9) (.tmp 10) true rfl (.map (some bm)) (kEn val l) _ rfl rfl HLk2.out) ?_
  have HN:=jH (And.intro hnum hf);clear hnum hf
  go_wp2
  go_ret2
  rw[HN.out.1,HN.out.2];exact⟨rfl,⟨HB1.out.os,HB1.out.tape,HB1.out.output,HB1.out.size,fun k hk _=>HB1.out.block k hk⟩,HM1.out⟩
 | none=>
  have hnum:kBe eqB L l=(L++[l],L.length):=by unfold kBe;rw[hf]
  rw[hf]at HLk;have HLk2:Hid ((Instr.lookup 153 (.map (some bm)) (kEn val l) true).run Try.prog w1= .ok (.tuple #[.int .i64 0,.bool false]) w1):=jH HLk.out;refine kAc (v:= .tuple #[.int .i64 0,.bool false]) (w':=w1) rfl (kCv 153 (.tmp 9) (.tmp 10) true rfl (.map (some bm)) (kEn val l) _ rfl rfl HLk2.out) ?_;have HSt:=jH (K.storeG Try.underlying153 (te:=3) HM1.out l hl HL.out hf (.int .i64 (L.length:Nat)) rfl);have HM3:Hid (kBw val vN (kG8 w1 bm (.map (kDd val vN 0 (L++[l])).toArray (L++[l]).length)) bm (L++[l])):=jH (kE7 w1 _ (by have:=HB1.out.size;omega));have HG3:Hid (w.grownBy (kG8 w1 bm (.map (kDd val vN 0 (L++[l])).toArray (L++[l]).length)) (some bm)):=jH ⟨HB1.out.os,HB1.out.tape,HB1.out.output,by simpa [kG8]using HB1.out.size,fun k hk hne=>by rw[kC0 w1 _ (fun e=>hne (by rw[e]))];exact HB1.out.block k hk⟩;generalize (kG8 w1 bm (.map (kDd val vN 0 (L++[l])).toArray (L++[l]).length))=w3 at*
  have hlen:(Builtin.len_ #[153] 3 #[.map (some bm)]).run Try.prog w1= .ok (.int .i64 (L.length:Nat)) w1:=by
   have:=run_len_map (P:= Try.prog) w1 153 3 bm _ _ (by kernel_rfl) HM1.out;rw[List.size_toArray,kJ6]at this;exact this
  have HN:=jH (And.intro hnum hf);clear hnum hf
  go_upto_region 4 with(fail)
  refine wp_region_list ?_;refine kAc (v:= .map (some bm)) (w':=w1) rfl (by rfl) ?_;refine wpList_load_mid rfl 155 (.tmp 3) rfl bb 0 rfl (kAf val l) (.array 64 3) HR1.out Try.underlying155 rfl (by rw[hbs];kernel_rfl) ?_;refine kAc (v:= .int .i64 (L.length:Nat)) (w':=w1) rfl (by rfl) ?_;refine kAz rfl 153 (.tmp 18) (.tmp 19) (.tmp 20) rfl (.map (some bm)) (kEn val l) (.int .i64 (L.length:Nat)) rfl rfl rfl HSt.out ?_;clear hlen;go_wp2
  go_ret2
  rw[HN.out.1,HN.out.2];exact⟨rfl,HG3.out,HM3.out⟩
end Go.Proofs.Ytabbabkmojaoaaa

namespace Go.Proofs.Ytabbabkmojaoaaa
open Go.RowKit
structure kC2 (c:Nat) (lm:List (List Int)) (mm:List (List Nat)) (tops:List Nat) (mids:List (List Nat)) (lows:List (List Int)) (aT:Option Addr) (cT:Nat) (aM:Option Addr) (cM:Nat) (aL:Option Addr) (cL:Nat) (W:World):Prop where
 s:W.heap[c]? =some (.cells #[.slice aT tops.length cT,.slice aM (64*mids.length) cM,.slice aL (64*lows.length) cL] 70 (0,0))
 rt:Own (c+3) 3 W aT tops.length cT (ivs .i64 (kBr tops))
 rm:Own (c+3) 3 W aM (64*mids.length) cM (ivs .i64 (kBr mids.flatten))
 rl:Own (c+3) 3 W aL (64*lows.length) cL (ivs .i64 lows.flatten)
 tm:∀k,ob aT=some k→ob aM≠some k
 tl:∀k,ob aT=some k→ob aL≠some k
 ml:∀k,ob aM=some k→ob aL≠some k
 lo:kBw vI vN W (c+1) lm
 mi:kBw vN vN W (c+2) mm
section
variable {c : Nat} {lm lm' : List (List Int)} {mm mm' : List (List Nat)} {tops : List Nat} {mids : List (List Nat)} {lows : List (List Int)} {aT : Option Addr} {cT : Nat} {aM : Option Addr} {cM : Nat} {aL : Option Addr} {cL : Nat} {W W' : World}
theorem kC2.bT (h:kC2 c lm mm tops mids lows aT cT aM cM aL cL W):∀k,ob aT=some k→c+3≤k∧k<W.heap.size:=fun k e=>World.ownsRow.lt h.rt k (by rw[kBf];exact e)
theorem kC2.bM (h:kC2 c lm mm tops mids lows aT cT aM cM aL cL W):∀k,ob aM=some k→c+3≤k∧k<W.heap.size:=fun k e=>World.ownsRow.lt h.rm k (by rw[kBf];exact e)
theorem kC2.bL (h:kC2 c lm mm tops mids lows aT cT aM cM aL cL W):∀k,ob aL=some k→c+3≤k∧k<W.heap.size:=fun k e=>World.ownsRow.lt h.rl k (by rw[kBf];exact e)
theorem kC2.sz (h:kC2 c lm mm tops mids lows aT cT aM cM aL cL W):c+3≤W.heap.size:=(jL h.mi)
theorem kC2.off (h:kC2 c lm mm tops mids lows aT cT aM cM aL cL W){T:Nat→Prop}(ho:Off T W W')(ht:∀k,T k→c+3≤k∧ob aT≠some k∧ob aM≠some k∧ob aL≠some k):kC2 c lm mm tops mids lows aT cT aM cM aL cL W':=
 ⟨ho.cellsBlock h.s (fun e=>by have:=(ht _ e).1;omega),
 h.rt.off ho (fun k e e2=>(ht k e2).2.1 (by rw[←kBf aT tops.length cT];exact e)),
 h.rm.off ho (fun k e e2=>(ht k e2).2.2.1 (by rw[←kBf aM (64*mids.length) cM];exact e)),
 h.rl.off ho (fun k e e2=>(ht k e2).2.2.2 (by rw[←kBf aL (64*lows.length) cL];exact e)),
 h.tm,h.tl,h.ml,ho.cellsBlock h.lo (fun e=>by have:=(ht _ e).1;omega),ho.cellsBlock h.mi (fun e=>by have:=(ht _ e).1;omega)⟩
theorem kC2.below (h:kC2 c lm mm tops mids lows aT cT aM cM aL cL W)(hb:Below W.heap.size W W'):kC2 c lm mm tops mids lows aT cT aM cM aL cL W':=
 h.off (T:=fun _=>False) (.of_below hb) (fun _ e=>e.elim)
theorem kC2.map_lo (h:kC2 c lm mm tops mids lows aT cT aM cM aL cL W)(hg:W.grownBy W' (some (c+1)))(hm:kBw vI vN W' (c+1) lm'):kC2 c lm' mm tops mids lows aT cT aM cM aL cL W':=by
 have ho:Off (fun k=>k=c+1) W W':= .of_grown hg (fun k e=>by cases e;rfl)
 exact⟨ho.cellsBlock h.s (by omega),h.rt.off ho (fun k e e2=>by have:=h.bT k (by rw[←kBf aT tops.length cT];exact e);omega),h.rm.off ho (fun k e e2=>by have:=h.bM k (by rw[←kBf aM (64*mids.length) cM];exact e);omega),
  h.rl.off ho (fun k e e2=>by have:=h.bL k (by rw[←kBf aL (64*lows.length) cL];exact e);omega),h.tm,h.tl,h.ml,hm,ho.cellsBlock h.mi (by omega)⟩
theorem kC2.map_mi (h:kC2 c lm mm tops mids lows aT cT aM cM aL cL W)(hg:W.grownBy W' (some (c+2)))(hm:kBw vN vN W' (c+2) mm'):kC2 c lm mm' tops mids lows aT cT aM cM aL cL W':=by
 have ho:Off (fun k=>k=c+2) W W':= .of_grown hg (fun k e=>by cases e;rfl)
 exact⟨ho.cellsBlock h.s (by omega),h.rt.off ho (fun k e e2=>by have:=h.bT k (by rw[←kBf aT tops.length cT];exact e);omega),h.rm.off ho (fun k e e2=>by have:=h.bM k (by rw[←kBf aM (64*mids.length) cM];exact e);omega),
  h.rl.off ho (fun k e e2=>by have:=h.bL k (by rw[←kBf aL (64*lows.length) cL];exact e);omega),h.tm,h.tl,h.ml,ho.cellsBlock h.lo (by omega),hm⟩
theorem kK9 {w:World}{a a':Option Addr}{n c n' c':Nat}(hn:kBk w (.slice a n c) (.slice a' n' c')):ob a'=ob a∨∃g,ob a'=some g∧w.heap.size≤g:=by
 unfold kBk at hn;rw[kBf,kBf]at hn;exact hn
theorem kC2.pushL (h:kC2 c lm mm tops mids lows aT cT aM cM aL cL W)(l:List Int){aL':Option Addr}{cL':Nat}(hl:l.length=64)(ho:Own (c+3) 3 W' aL' (64*lows.length+64) cL' (ivs .i64 lows.flatten++ivs .i64 l))(hg:W.grownBy W' (Value.slice aL (64*lows.length) cL).ownBlock)
  (hn:kBk W (.slice aL (64*lows.length) cL) (.slice aL' (64*lows.length+64) cL')):kC2 c lm mm tops mids (lows++[l]) aT cT aM cM aL' cL' (W'.setCell ⟨c,2,none⟩ (.slice aL' (64*lows.length+64) cL')):=by
 rw[kBf]at hg;have hn:=kK9 hn;have hsz:=h.sz;have o1:Off (fun k=>ob aL=some k) W W':= .of_grown hg (fun k e=>e);have o2:Off (fun k=>k=c) W' (W'.setCell ⟨c,2,none⟩ (.slice aL' (64*lows.length+64) cL')):= .of_grown (kAe W' c 2 _) (fun k e=>by cases e;rfl);have hT:Own (c+3) 3 W' aT tops.length cT (ivs .i64 (kBr tops)):=h.rt.off o1 (fun k e e2=>h.tl k (by rw[←kBf aT tops.length cT];exact e) e2);have hM:Own (c+3) 3 W' aM (64*mids.length) cM (ivs .i64 (kBr mids.flatten)):=h.rm.off o1 (fun k e e2=>h.ml k (by rw[←kBf aM (64*mids.length) cM];exact e) e2)
 refine⟨?_,hT.off o2 (fun k e e2=>by have:=h.bT k (by rw[←kBf aT tops.length cT];exact e);omega),hM.off o2 (fun k e e2=>by have:=h.bM k (by rw[←kBf aM (64*mids.length) cM];exact e);omega),?_,h.tm,?_,?_,?_,?_⟩
 ·have hs:=o1.cellsBlock h.s (fun e=>by have:=h.bL _ e;omega);rw[jP W' c 2 _ _ _ hs];simp[List.length_append,Nat.mul_add]
 ·have:=ho.off o2 (fun k e e2=>by have:=World.ownsRow.lt ho k e;omega)
  have e1:64*(lows++[l]).length=64*lows.length+64:=by simp;omega
  have e2:ivs .i64 (lows++[l]).flatten=ivs .i64 lows.flatten++ivs .i64 l:=by rw[List.flatten_append,kEc];simp
  rw[e1,e2];exact this
 ·intro k e e2
  rcases hn with hn | ⟨g,hn,hg2⟩
  ·rw[hn]at e2;exact h.tl k e e2
  ·rw[hn]at e2;cases e2;have:=h.bT k e;omega
 ·intro k e e2
  rcases hn with hn | ⟨g,hn,hg2⟩
  ·rw[hn]at e2;exact h.ml k e e2
  ·rw[hn]at e2;cases e2;have:=h.bM k e;omega
 ·exact o2.cellsBlock (o1.cellsBlock h.lo (fun e=>by have:=h.bL _ e;omega)) (by omega)
 ·exact o2.cellsBlock (o1.cellsBlock h.mi (fun e=>by have:=h.bL _ e;omega)) (by omega)
theorem kC2.pushM (h:kC2 c lm mm tops mids lows aT cT aM cM aL cL W)(l:List Nat){aM':Option Addr}{cM':Nat}(hl:l.length=64)(ho:Own (c+3) 3 W' aM' (64*mids.length+64) cM' (ivs .i64 (kBr mids.flatten)++ivs .i64 (kBr l)))(hg:W.grownBy W' (Value.slice aM (64*mids.length) cM).ownBlock)
  (hn:kBk W (.slice aM (64*mids.length) cM) (.slice aM' (64*mids.length+64) cM')):kC2 c lm mm tops (mids++[l]) lows aT cT aM' cM' aL cL (W'.setCell ⟨c,1,none⟩ (.slice aM' (64*mids.length+64) cM')):=by
 rw[kBf]at hg;have hn:=kK9 hn;have hsz:=h.sz;have o1:Off (fun k=>ob aM=some k) W W':= .of_grown hg (fun k e=>e);have o2:Off (fun k=>k=c) W' (W'.setCell ⟨c,1,none⟩ (.slice aM' (64*mids.length+64) cM')):= .of_grown (kAe W' c 1 _) (fun k e=>by cases e;rfl);have hT:Own (c+3) 3 W' aT tops.length cT (ivs .i64 (kBr tops)):=h.rt.off o1 (fun k e e2=>h.tm k (by rw[←kBf aT tops.length cT];exact e) e2);have hL:Own (c+3) 3 W' aL (64*lows.length) cL (ivs .i64 lows.flatten):=h.rl.off o1 (fun k e e2=>h.ml k e2 (by rw[←kBf aL (64*lows.length) cL];exact e))
 refine⟨?_,hT.off o2 (fun k e e2=>by have:=h.bT k (by rw[←kBf aT tops.length cT];exact e);omega),?_,hL.off o2 (fun k e e2=>by have:=h.bL k (by rw[←kBf aL (64*lows.length) cL];exact e);omega),?_,h.tl,?_,?_,?_⟩
 ·have hs:=o1.cellsBlock h.s (fun e=>by have:=h.bM _ e;omega);rw[jP W' c 1 _ _ _ hs];simp[List.length_append,Nat.mul_add]
 ·have:=ho.off o2 (fun k e e2=>by have:=World.ownsRow.lt ho k e;omega)
  have e1:64*(mids++[l]).length=64*mids.length+64:=by simp;omega
  have e2:ivs .i64 (kBr (mids++[l]).flatten)=ivs .i64 (kBr mids.flatten)++ivs .i64 (kBr l):=by rw[List.flatten_append,kKb,kEc];simp
  rw[e1,e2];exact this
 ·intro k e e2
  rcases hn with hn | ⟨g,hn,hg2⟩
  ·rw[hn]at e2;exact h.tm k e e2
  ·rw[hn]at e2;cases e2;have:=h.bT k e;omega
 ·intro k e e2
  rcases hn with hn | ⟨g,hn,hg2⟩
  ·rw[hn]at e;exact h.ml k e e2
  ·rw[hn]at e;cases e;have:=h.bL k e2;omega
 ·exact o2.cellsBlock (o1.cellsBlock h.lo (fun e=>by have:=h.bM _ e;omega)) (by omega)
 ·exact o2.cellsBlock (o1.cellsBlock h.mi (fun e=>by have:=h.bM _ e;omega)) (by omega)
theorem kC2.pushT (h:kC2 c lm mm tops mids lows aT cT aM cM aL cL W)(x:Nat){aT':Option Addr}{cT':Nat}(ho:Own (c+3) 3 W' aT' (tops.length+1) cT' (ivs .i64 (kBr tops)++[.int .i64 (x:Nat)]))(hg:W.grownBy W' (Value.slice aT tops.length cT).ownBlock)
  (hn:kBk W (.slice aT tops.length cT) (.slice aT' (tops.length+1) cT')):kC2 c lm mm (tops++[x]) mids lows aT' cT' aM cM aL cL (W'.setCell ⟨c,0,none⟩ (.slice aT' (tops.length+1) cT')):=by
 rw[kBf]at hg;have hn:=kK9 hn;have hsz:=h.sz;have o1:Off (fun k=>ob aT=some k) W W':= .of_grown hg (fun k e=>e);have o2:Off (fun k=>k=c) W' (W'.setCell ⟨c,0,none⟩ (.slice aT' (tops.length+1) cT')):= .of_grown (kAe W' c 0 _) (fun k e=>by cases e;rfl);have hM:Own (c+3) 3 W' aM (64*mids.length) cM (ivs .i64 (kBr mids.flatten)):=h.rm.off o1 (fun k e e2=>h.tm k e2 (by rw[←kBf aM (64*mids.length) cM];exact e));have hL:Own (c+3) 3 W' aL (64*lows.length) cL (ivs .i64 lows.flatten):=h.rl.off o1 (fun k e e2=>h.tl k e2 (by rw[←kBf aL (64*lows.length) cL];exact e))
 refine⟨?_,?_,hM.off o2 (fun k e e2=>by have:=h.bM k (by rw[←kBf aM (64*mids.length) cM];exact e);omega),hL.off o2 (fun k e e2=>by have:=h.bL k (by rw[←kBf aL (64*lows.length) cL];exact e);omega),?_,?_,h.ml,?_,?_⟩
 ·have hs:=o1.cellsBlock h.s (fun e=>by have:=h.bT _ e;omega);rw[jP W' c 0 _ _ _ hs];simp[List.length_append]
 ·have:=ho.off o2 (fun k e e2=>by have:=World.ownsRow.lt ho k e;omega)
  have e1:(tops++[x]).length=tops.length+1:=by simp
  have e2:ivs .i64 (kBr (tops++[x]))=ivs .i64 (kBr tops)++[.int .i64 (x:Nat)]:=by rw[kLk,kEc];rfl
  rw[e1,e2];exact this
 ·intro k e e2
  rcases hn with hn | ⟨g,hn,hg2⟩
  ·rw[hn]at e;exact h.tm k e e2
  ·rw[hn]at e;cases e;have:=h.bM k e2;omega
 ·intro k e e2
  rcases hn with hn | ⟨g,hn,hg2⟩
  ·rw[hn]at e;exact h.tl k e e2
  ·rw[hn]at e;cases e;have:=h.bL k e2;omega
 ·exact o2.cellsBlock (o1.cellsBlock h.lo (fun e=>by have:=h.bT _ e;omega)) (by omega)
 ·exact o2.cellsBlock (o1.cellsBlock h.mi (fun e=>by have:=h.bT _ e;omega)) (by omega)
end
def kB0 (w:World) (sv:Value) (S:MkS Int):Prop:=∃aT cT aM cM aL cL,sv= .agg #[.slice aT S.top.length cT,.slice aM (64*S.mids.length) cM,.slice aL (64*S.lows.length) cL]∧Ints .i64 w aT (kBr S.top)∧Ints .i64 w aM (kBr S.mids.flatten)∧Ints .i64 w aL S.lows.flatten
def kLb (F:Nat→Int) (k:Nat) (n last:Int):Prop:=n= -1∨∃q:Nat,n=(q:Int)∧(mkF F k).lows[q]? =some (List.replicate 64 last)
theorem kLb.next {F:Nat→Int}{k:Nat}{n last:Int}(h:kLb F k n last):kLb F (k+1) n last:=by
 rcases h with h | ⟨q,h1,h2⟩
 ·exact .inl h
 ·exact .inr ⟨q,h1,(kNi F k 1 q).1 _ h2⟩
theorem kMu {F:Nat→Int}{k q:Nat}{v:Int}(hk:k<17408)(hq:(mkF F k).lows[q]? =some (List.replicate 64 v))(hb:blkF F k=List.replicate 64 v):noF F k=q∧(mkF F (k+1)).lows=(mkF F k).lows:=by
 have hi:=inv8 F k (by omega)
 have hl:∀m∈(mkF F k).lows,m.length=(blkF F k).length:=fun m hm=>by rw[kAu];exact(kC4 F k).1.low m hm
 have:=(kNj hi.nl hl (by rw[hb];exact hq)).2;have e:kBe eq8 (mkF F k).lows (blkF F k)=((mkF F k).lows,q):=this;exact⟨by unfold noF;rw[e],by rw[kHk,e]⟩
theorem noF_at (F:Nat→Int)(k:Nat)(hk:k<17408):(mkF F (k+1)).lows[noF F k]? =some (blkF F k):=by
 have hl:∀m∈(mkF F k).lows,m.length=(blkF F k).length:=fun m hm=>by rw[kAu];exact(kC4 F k).1.low m hm
 rw[kHk];exact(kI0 hl).at_
end Go.Proofs.Ytabbabkmojaoaaa
