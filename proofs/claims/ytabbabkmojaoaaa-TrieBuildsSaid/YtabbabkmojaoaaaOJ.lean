/- several texts in one: CNS -/
import Derived.Test.YtabbabkmojaoaaaOI
import Derived.Test.YtabbabkmojaoaaaNO
set_option linter.unusedVariables false
set_option linter.unusedSimpArgs false
set_option maxRecDepth 100000
set_option maxHeartbeats 16000000
namespace Go.Proofs.Ytabbabkmojaoaaa.VS
theorem kBu.nl {f:Nat→El}{S:MkS El}(hS:kBu f S):S.lows.Nodup:=hS.made.inv.nl
theorem kAp (many:Nat)(ag:Nat→Bool):∀(l l':List Nat) (n:Nat),kAq many ag (l++l') n=(kAq many ag l n).bind (fun m=>kAq many ag l' m)
 | [],l',n=>rfl
 | x :: l,l',n=>by
  rw[List.cons_append,kAq,kAq]
  split
  ·exact kAp many ag l l' (n+1)
  ·split
   ·rfl
   ·exact kAp many ag l l' n
theorem kCb {many:Nat}{ag:Nat→Bool}:∀ {l:List Nat} {n m:Nat},kAq many ag l n=some m→n≤m∧∀x∈l,x<m
 | [],n,m,h=>by simp only[kAq,Option.some.injEq]at h;exact⟨by omega,fun x hx=>by simp at hx⟩
 | y :: l,n,m,h=>by
  rw[kAq]at h
  split at h
  ·rename_i hc
   obtain⟨h1,h2⟩:=kCb h;refine⟨by omega,fun x hx=> ?_⟩
   rcases List.mem_cons.1 hx with rfl | hx
   ·omega
   ·exact h2 x hx
  ·split at h
   ·cases h
   ·rename_i hc hd
    obtain⟨h1,h2⟩:=kCb h;refine⟨h1,fun x hx=> ?_⟩
    rcases List.mem_cons.1 hx with rfl | hx
    ·have:¬n≤x:=fun e=>hd (.inl e)
     omega
    ·exact h2 x hx
theorem kC5 (many:Nat):∀(l:List Nat) (n:Nat),(∀x∈l,x<n)→kAq many (fun _=>true) l n=some n
 | [],n,_=>rfl
 | x :: l,n,h=>by
  have hx:=h x (by simp);rw[kAq,if_neg (by omega),if_neg (by simp;omega)];exact kC5 many l n (fun y hy=>h y (by simp[hy]))
theorem kCh (many n x:Nat)(h:x<n):kAq many (fun _=>true) [x] n=some n:=kC5 many [x] n (fun y hy=>by rw[List.mem_singleton.1 hy];exact h)
theorem kCg (many n:Nat)(h:n<many):kAq many (fun _=>true) [n] n=some (n+1):=by rw[kAq,if_pos ⟨rfl,h⟩];rfl
theorem kB2 {many many':Nat}(h:many≤many'):∀ {l:List Nat} {n m:Nat},kAq many (fun _=>true) l n=some m→kAq many' (fun _=>true) l n=some m
 | [],n,m,e=>e
 | x :: l,n,m,e=>by
  rw[kAq]at e ⊢
  split at e
  ·rename_i hc
   rw[if_pos ⟨hc.1,by omega⟩];exact kB2 h e
  ·rename_i hc
   split at e
   ·cases e
   ·rename_i hd
    have hx:x<n:=by
     have:¬n≤x:=fun e=>hd (.inl e)
     omega
    rw[if_neg (by omega),if_neg hd];exact kB2 h e
theorem kDs {β:Type} [DecidableEq β] {L:List (List β)}{b:List β}(hL:∀m∈L,m.length=b.length):
  (∃k,k<L.length∧L[k]? =some b∧kBe (fun x y=>decide (x=y)) L b=(L,k))∨(b∉L∧kBe (fun x y=>decide (x=y)) L b=(L++[b],L.length)):=by
 unfold kBe
 cases h:kAo (fun x y=>decide (x=y)) b L with
 | some k=>
  have h1:=kDq hL h;exact .inl ⟨k,(List.getElem?_eq_some_iff.1 h1).1,h1,rfl⟩
 | none=>exact .inr ⟨kDp hL h,rfl⟩
structure CanI (k:Nat) (S:MkS El):Prop where
 low:kAq S.lows.length (fun _=>true) (S.mids.flatten++S.cur.take (k % 64)) 0=some S.lows.length
 top:kAq S.mids.length (fun _=>true) (S.top.take (k / 64)) 0=some S.mids.length
theorem canI (f:Nat→El):∀k,k≤17408→CanI k (mkF f k):=by
 intro k
 induction k with
 | zero=>intro _;exact⟨rfl,rfl⟩
 | succ k ih=>
  intro hk;obtain⟨h1,h2⟩:=ih (by omega);obtain⟨hw,hb, -, -⟩:=kC4 f k
  obtain⟨S,hS⟩:∃S,S=mkF f k:=⟨_,rfl⟩
  rw[mkF,←hS];rw[←hS]at h1 h2 hw hb
  have hcl:k % 64<S.cur.length:=by rw[hw.cur];omega
  -- the low block
  have hN:∃x L',kBe eq8 S.lows (blkF f k)=(L',x)∧kAq L'.length (fun _=>true) (S.mids.flatten++(S.cur.set (k % 64) x).take (k % 64+1)) 0=some L'.length:=by
   have e:(S.cur.set (k % 64) ·)=fun x=>S.cur.set (k % 64) x:=rfl
   have hset:∀x,(S.cur.set (k % 64) x).take (k % 64+1)=S.cur.take (k % 64)++[x]:=fun x=>by
    rw[List.take_succ_eq_append_getElem (by simpa using hcl)];simp[List.take_set];exact List.set_eq_of_length_le (by simp;omega)
   rcases kDs (L:=S.lows) (b:=blkF f k) (fun m hm=>by rw[hw.low m hm,kAu])with⟨x,hx, -,h⟩ | ⟨-,h⟩
   ·refine⟨x,S.lows,h,?_⟩;rw[hset,←List.append_assoc,kAp,h1];exact kCh _ _ _ hx
   ·refine⟨S.lows.length,S.lows++[blkF f k],h,?_⟩;rw[hset,←List.append_assoc,kAp,List.length_append,List.length_singleton,kB2 (Nat.le_succ _) h1];exact kCg _ _ (by omega)
  obtain⟨x,L',hN1,hN2⟩:=hN
  by_cases hf:(k+1) % 64=0
  ·have hq:(k+1) / 64=k / 64+1:=by omega
   have h63:k % 64+1=64:=by omega
   have hcl2:(S.cur.set (k % 64) x).length=64:=by simpa using hw.cur
   rw[h63,List.take_of_length_le (by omega)]at hN2;rw[kBi (by rw[hb];exact hf)];simp only[hb,hN1]
   have htl:k / 64<S.top.length:=by rw[hw.top];omega
   have htop:∀y,(S.top.set (k / 64) y).take ((k+1) / 64)=S.top.take (k / 64)++[y]:=fun y=>by
    rw[hq,List.take_succ_eq_append_getElem (by simpa using htl)];simp[List.take_set];exact List.set_eq_of_length_le (by simp;omega)
   rcases kDs (L:=S.mids) (b:=S.cur.set (k % 64) x) (fun m hm=>by rw[hw.mid m hm,hcl2])with⟨y,hy,hyb,h⟩ | ⟨hnot,h⟩
   ·have h':kBe kDl S.mids (S.cur.set (k % 64) x)=(S.mids,y):=h;rw[h']
    refine⟨?_,?_⟩
    ·simp only[hf,List.take_zero,List.append_nil]
     -- the row is an old one:it names no new block
     have h3:∃n',kAq L'.length (fun _=>true) S.mids.flatten 0=some n':=by
      rw[kAp]at hN2
      cases e:kAq L'.length (fun _=>true) S.mids.flatten 0 with
      | none=>rw[e]at hN2;cases hN2
      | some n'=>exact⟨n',rfl⟩
     obtain⟨n',hn'⟩:=h3;have h4:=(kCb hn').2;have h5:kAq L'.length (fun _=>true) (S.cur.set (k % 64) x) n'=some n':=kC5 _ _ _ (fun z hz=>h4 z (List.mem_flatten.2 ⟨_,List.mem_of_getElem? hyb,hz⟩));rw[kAp,hn']at hN2;rw[hn',←hN2];exact h5.symm
    ·simp only[htop];rw[kAp,h2];exact kCh _ _ _ hy
   ·have h':kBe kDl S.mids (S.cur.set (k % 64) x)=(S.mids++[S.cur.set (k % 64) x],S.mids.length):=h;rw[h']
    refine⟨?_,?_⟩
    ·simp only[hf,List.take_zero,List.append_nil,List.flatten_append,List.flatten_cons,List.flatten_nil];exact hN2
    ·simp only[htop];rw[kAp,List.length_append,List.length_singleton,kB2 (Nat.le_succ _) h2];exact kCg _ _ (by omega)
  ·have hq:(k+1) / 64=k / 64:=by omega
   have hm:(k+1) % 64=k % 64+1:=by omega
   rw[kBj (by rw[hb];exact hf)];simp only[hb,hN1]
   refine⟨?_,?_⟩
   ·simp only[hm];exact hN2
   ·simp only[hq];exact h2
theorem kDo {β:Type}(L:List (List β))(hl:∀l∈L,l.length=64):(List.range L.length).map (fun q=>(L.flatten.drop (64*q)).take 64)=L:=by
 induction L with
 | nil=>rfl
 | cons l L ih=>
  have h1:=hl l (by simp);rw[List.length_cons,List.range_succ_eq_map,List.map_cons,List.map_map]
  congr 1
  ·rw[List.flatten_cons,Nat.mul_zero,List.drop_zero,List.take_left' h1]
  ·rw[show(fun q=>List.take 64 (List.drop (64*q) (List.flatten (l :: L)))) ∘ Nat.succ=fun q=>List.take 64 (List.drop (64*q) L.flatten)from by
    funext q
    simp only[Function.comp,List.flatten_cons]
    rw[show 64*q.succ=l.length+64*q by rw[h1];omega,←List.drop_drop,List.drop_left]]
   exact ih (fun l hl2=>hl l (by simp[hl2]))
theorem kGu {β:Type} [DecidableEq β] {L:List (List β)}(hl:∀l∈L,l.length=64):(∀k (h:k<L.length),k<L.length→kAo (fun a b=>decide (a=b)) L[k] (L.take k)=none)↔L.Nodup:=by
 constructor
 ·intro h;rw[List.nodup_iff_pairwise_ne,List.pairwise_iff_getElem];intro i j hi hj hij e;have h1:=kDp (fun m hm=>by rw[hl m (List.mem_of_mem_take hm),hl _ (List.getElem_mem hj)]) (h j hj hj);exact h1 (by rw[←e,List.mem_take_iff_getElem];exact⟨i,by omega,rfl⟩)
 ·intro h k hk _
  cases e:kAo (fun a b=>decide (a=b)) L[k] (L.take k)with
  | none=>rfl
  | some i=>
   have h1:=kDq (fun m hm=>by rw[hl m (List.mem_of_mem_take hm),hl _ (List.getElem_mem hk)]) e;obtain⟨hi,h2⟩:=List.getElem?_eq_some_iff.1 h1;rw[List.length_take]at hi;rw[List.getElem_take]at h2;exact absurd h2 (List.pairwise_iff_getElem.1 (List.nodup_iff_pairwise_ne.1 h) i k (by omega) hk (by omega))
theorem kBu.fromOk {f:Nat→El}{S:MkS El}(hS:kBu f S):kCd S.top S.mids.flatten S.lows.flatten∧kFt S.top S.mids.flatten S.lows.flatten=kA1 S:=by
 have hp:=hS.pos;have hm:=kDa S.mids hS.made.ok.mid;have hl:=kDa S.lows hS.made.ok.low
 have em:S.mids.flatten.length / 64=S.mids.length:=by omega
 have el:S.lows.flatten.length / 64=S.lows.length:=by omega
 have cm:VN.cksL S.mids.flatten S.mids.length=S.mids:=kDo S.mids hS.made.ok.mid;have cl:cksL S.lows.flatten S.lows.length=S.lows:=kDo S.lows hS.made.ok.low;have hml:=hS.ml;have hll:=hS.ll;obtain⟨K,hK,hSK⟩:=hS.eq;have hc:=canI f K (by omega);rw[←hSK]at hc;have hc1:=hc.low;have hc2:=hc.top;rw[show K % 64=0 by omega,List.take_zero,List.append_nil]at hc1;rw[show K / 64=272 by omega,List.take_of_length_le (by rw[hS.made.ok.top];exact Nat.le_refl _)]at hc2
 refine⟨⟨hS.made.ok.top,by omega,by omega,by omega,by omega,by omega,by omega,by rw[el];exact hc1,by rw[em];exact hc2,?_,?_⟩,?_⟩
 ·rw[el,cl];exact(kGu hS.made.ok.low).2 hS.nl
 ·rw[em,cm];exact(kGu hS.made.ok.mid).2 hS.made.inv.nm
 ·unfold kFt kA1;rw[em,el,cm,cl]
end Go.Proofs.Ytabbabkmojaoaaa.VS
