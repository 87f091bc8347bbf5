/- several texts in one: CN CNJ RP RPJ -/
import Derived.Test.YtbmphakfgoompaaGreatOX8
import Derived.Test.YtbmphakfgoompaaGreatOXJ
set_option linter.unusedVariables false
set_option linter.unusedSimpArgs false
set_option maxRecDepth 100000
set_option maxHeartbeats 16000000
namespace Go.Proofs.YtbmphakfgoompaaGreat
theorem kAm (many:Nat)(ag:Nat→Bool):∀(l l':List Nat) (n:Nat),kAn many ag (l++l') n=(kAn many ag l n).bind (fun m=>kAn many ag l' m)
 | [],l',n=>rfl
 | x :: l,l',n=>by
  rw[List.cons_append,kAn,kAn]
  split
  ·exact kAm many ag l l' (n+1)
  ·split
   ·rfl
   ·exact kAm many ag l l' n
theorem kA5 {many:Nat}{ag:Nat→Bool}:∀ {l:List Nat} {n m:Nat},kAn many ag l n=some m→n≤m∧∀x∈l,x<m
 | [],n,m,h=>by simp only[kAn,Option.some.injEq]at h;exact⟨by omega,fun x hx=>by simp at hx⟩
 | y :: l,n,m,h=>by
  rw[kAn]at h
  split at h
  ·rename_i hc
   obtain⟨h1,h2⟩:=kA5 h;refine⟨by omega,fun x hx=> ?_⟩
   rcases List.mem_cons.1 hx with rfl | hx
   ·omega
   ·exact h2 x hx
  ·split at h
   ·cases h
   ·rename_i hc hd
    obtain⟨h1,h2⟩:=kA5 h;refine⟨h1,fun x hx=> ?_⟩
    rcases List.mem_cons.1 hx with rfl | hx
    ·have:¬n≤x:=fun e=>hd (.inl e)
     omega
    ·exact h2 x hx
theorem kC7 (many:Nat):∀(l:List Nat) (n:Nat),(∀x∈l,x<n)→kAn many (fun _=>true) l n=some n
 | [],n,_=>rfl
 | x :: l,n,h=>by
  have hx:=h x (by simp);rw[kAn,if_neg (by omega),if_neg (by simp;omega)];exact kC7 many l n (fun y hy=>h y (by simp[hy]))
theorem kBq (many n x:Nat)(h:x<n):kAn many (fun _=>true) [x] n=some n:=kC7 many [x] n (fun y hy=>by rw[List.mem_singleton.1 hy];exact h)
theorem kB6 (many n:Nat)(h:n<many):kAn many (fun _=>true) [n] n=some (n+1):=by rw[kAn,if_pos ⟨rfl,h⟩];rfl
theorem kCi {many many':Nat}(h:many≤many'):∀ {l:List Nat} {n m:Nat},kAn many (fun _=>true) l n=some m→kAn many' (fun _=>true) l n=some m
 | [],n,m,e=>e
 | x :: l,n,m,e=>by
  rw[kAn]at e ⊢
  split at e
  ·rename_i hc
   rw[if_pos ⟨hc.1,by omega⟩];exact kCi h e
  ·rename_i hc
   split at e
   ·cases e
   ·rename_i hd
    have hx:x<n:=by
     have:¬n≤x:=fun e=>hd (.inl e)
     omega
    rw[if_neg (by omega),if_neg hd];exact kCi h e
theorem kCh {β:Type} [DecidableEq β] {L:List (List β)}{b:List β}(hL:∀m∈L,m.length=b.length):
  (∃k,k<L.length∧L[k]? =some b∧kBg (fun x y=>decide (x=y)) L b=(L,k))∨(b∉L∧kBg (fun x y=>decide (x=y)) L b=(L++[b],L.length)):=by
 unfold kBg
 cases h:kAq (fun x y=>decide (x=y)) b L with
 | some k=>
  have h1:=kDx hL h;exact .inl ⟨k,(List.getElem?_eq_some_iff.1 h1).1,h1,rfl⟩
 | none=>exact .inr ⟨kDw hL h,rfl⟩
structure CanI (k:Nat) (S:MkS Int):Prop where
 low:kAn S.lows.length (fun _=>true) (S.mids.flatten++S.cur.take (k % 64)) 0=some S.lows.length
 top:kAn S.mids.length (fun _=>true) (S.top.take (k / 64)) 0=some S.mids.length
theorem canI (f:Nat→Int):∀k,k≤17408→CanI k (mkF f k):=by
 intro k
 induction k with
 | zero=>intro _;exact⟨rfl,rfl⟩
 | succ k ih=>
  intro hk;obtain⟨h1,h2⟩:=ih (by omega);obtain⟨hw,hb, -, -⟩:=kCj f k
  obtain⟨S,hS⟩:∃S,S=mkF f k:=⟨_,rfl⟩
  rw[mkF,←hS];rw[←hS]at h1 h2 hw hb
  have hcl:k % 64<S.cur.length:=by rw[hw.cur];omega
  -- the low block
  have hN:∃x L',kBg eq8 S.lows (blkF f k)=(L',x)∧kAn L'.length (fun _=>true) (S.mids.flatten++(S.cur.set (k % 64) x).take (k % 64+1)) 0=some L'.length:=by
   have e:(S.cur.set (k % 64) ·)=fun x=>S.cur.set (k % 64) x:=rfl
   have hset:∀x,(S.cur.set (k % 64) x).take (k % 64+1)=S.cur.take (k % 64)++[x]:=fun x=>by
    rw[List.take_succ_eq_append_getElem (by simpa using hcl)];simp[List.take_set];exact List.set_eq_of_length_le (by simp;omega)
   rcases kCh (L:=S.lows) (b:=blkF f k) (fun m hm=>by rw[hw.low m hm,kAw])with⟨x,hx, -,h⟩ | ⟨-,h⟩
   ·refine⟨x,S.lows,h,?_⟩;rw[hset,←List.append_assoc,kAm,h1];exact kBq _ _ _ hx
   ·refine⟨S.lows.length,S.lows++[blkF f k],h,?_⟩;rw[hset,←List.append_assoc,kAm,List.length_append,List.length_singleton,kCi (Nat.le_succ _) h1];exact kB6 _ _ (by omega)
  obtain⟨x,L',hN1,hN2⟩:=hN
  by_cases hf:(k+1) % 64=0
  ·have hq:(k+1) / 64=k / 64+1:=by omega
   have h63:k % 64+1=64:=by omega
   have hcl2:(S.cur.set (k % 64) x).length=64:=by simpa using hw.cur
   rw[h63,List.take_of_length_le (by omega)]at hN2;rw[kBn (by rw[hb];exact hf)];simp only[hb,hN1]
   have htl:k / 64<S.top.length:=by rw[hw.top];omega
   have htop:∀y,(S.top.set (k / 64) y).take ((k+1) / 64)=S.top.take (k / 64)++[y]:=fun y=>by
    rw[hq,List.take_succ_eq_append_getElem (by simpa using htl)];simp[List.take_set];exact List.set_eq_of_length_le (by simp;omega)
   rcases kCh (L:=S.mids) (b:=S.cur.set (k % 64) x) (fun m hm=>by rw[hw.mid m hm,hcl2])with⟨y,hy,hyb,h⟩ | ⟨hnot,h⟩
   ·have h':kBg kDs S.mids (S.cur.set (k % 64) x)=(S.mids,y):=h;rw[h']
    refine⟨?_,?_⟩
    ·simp only[hf,List.take_zero,List.append_nil]
     -- the row is an old one:it names no new block
     have h3:∃n',kAn L'.length (fun _=>true) S.mids.flatten 0=some n':=by
      rw[kAm]at hN2
      cases e:kAn L'.length (fun _=>true) S.mids.flatten 0 with
      | none=>rw[e]at hN2;cases hN2
      | some n'=>exact⟨n',rfl⟩
     obtain⟨n',hn'⟩:=h3;have h4:=(kA5 hn').2;have h5:kAn L'.length (fun _=>true) (S.cur.set (k % 64) x) n'=some n':=kC7 _ _ _ (fun z hz=>h4 z (List.mem_flatten.2 ⟨_,List.mem_of_getElem? hyb,hz⟩));rw[kAm,hn']at hN2;rw[hn',←hN2];exact h5.symm
    ·simp only[htop];rw[kAm,h2];exact kBq _ _ _ hy
   ·have h':kBg kDs S.mids (S.cur.set (k % 64) x)=(S.mids++[S.cur.set (k % 64) x],S.mids.length):=h;rw[h']
    refine⟨?_,?_⟩
    ·simp only[hf,List.take_zero,List.append_nil,List.flatten_append,List.flatten_cons,List.flatten_nil];exact hN2
    ·simp only[htop];rw[kAm,List.length_append,List.length_singleton,kCi (Nat.le_succ _) h2];exact kB6 _ _ (by omega)
  ·have hq:(k+1) / 64=k / 64:=by omega
   have hm:(k+1) % 64=k % 64+1:=by omega
   rw[kBo (by rw[hb];exact hf)];simp only[hb,hN1]
   refine⟨?_,?_⟩
   ·simp only[hm];exact hN2
   ·simp only[hq];exact h2
theorem kEo {β:Type}(L:List (List β))(hl:∀l∈L,l.length=64):(List.range L.length).map (fun q=>(L.flatten.drop (64*q)).take 64)=L:=by
 induction L with
 | nil=>rfl
 | cons l L ih=>
  have h1:=hl l (by simp);rw[List.length_cons,List.range_succ_eq_map,List.map_cons,List.map_map]
  congr 1
  ·rw[List.flatten_cons,Nat.mul_zero,List.drop_zero,List.take_left' h1]
  ·rw[show(fun q=>List.take 64 (List.drop (64*q) (List.flatten (l :: L)))) ∘ Nat.succ=fun q=>List.take 64 (List.drop (64*q) L.flatten)from by
    funext q
    simp only[Function.comp,List.flatten_cons]
    rw[show 64*q.succ=l.length+64*q by rw[h1];omega,←List.drop_drop,List.drop_left]]
   exact ih (fun l hl2=>hl l (by simp[hl2]))
theorem kFa {β:Type} [DecidableEq β] {L:List (List β)}(hl:∀l∈L,l.length=64):(∀k (h:k<L.length),k<L.length→kAq (fun a b=>decide (a=b)) L[k] (L.take k)=none)↔L.Nodup:=by
 constructor
 ·intro h;rw[List.nodup_iff_pairwise_ne,List.pairwise_iff_getElem];intro i j hi hj hij e;have h1:=kDw (fun m hm=>by rw[hl m (List.mem_of_mem_take hm),hl _ (List.getElem_mem hj)]) (h j hj hj);exact h1 (by rw[←e,List.mem_take_iff_getElem];exact⟨i,by omega,rfl⟩)
 ·intro h k hk _
  cases e:kAq (fun a b=>decide (a=b)) L[k] (L.take k)with
  | none=>rfl
  | some i=>
   have h1:=kDx (fun m hm=>by rw[hl m (List.mem_of_mem_take hm),hl _ (List.getElem_mem hk)]) e;obtain⟨hi,h2⟩:=List.getElem?_eq_some_iff.1 h1;rw[List.length_take]at hi;rw[List.getElem_take]at h2;exact absurd h2 (List.pairwise_iff_getElem.1 (List.nodup_iff_pairwise_ne.1 h) i k (by omega) hk (by omega))
theorem Made8.fromOk {f:Nat→Int}{S:MkS Int}(hS:Made8 f S):FromOk S.top S.mids.flatten S.lows.flatten∧fromT S.top S.mids.flatten S.lows.flatten=trieS S:=by
 have hp:=hS.pos;have hm:=kG4 S.mids hS.made.ok.mid;have hl:=kG4 S.lows hS.made.ok.low
 have em:S.mids.flatten.length / 64=S.mids.length:=by omega
 have el:S.lows.flatten.length / 64=S.lows.length:=by omega
 have cm:VN.cksL S.mids.flatten S.mids.length=S.mids:=kEo S.mids hS.made.ok.mid;have cl:cksL S.lows.flatten S.lows.length=S.lows:=kEo S.lows hS.made.ok.low;have hml:=hS.ml;have hll:=hS.ll;obtain⟨K,hK,hSK⟩:=hS.eq;have hc:=canI f K (by omega);rw[←hSK]at hc;have hc1:=hc.low;have hc2:=hc.top;rw[show K % 64=0 by omega,List.take_zero,List.append_nil]at hc1;rw[show K / 64=272 by omega,List.take_of_length_le (by rw[hS.made.ok.top];exact Nat.le_refl _)]at hc2
 refine⟨⟨hS.made.ok.top,by omega,by omega,by omega,by omega,by omega,by omega,by rw[el];exact hc1,by rw[em];exact hc2,?_,?_⟩,?_⟩
 ·rw[el,cl];exact(kFa hS.made.ok.low).2 hS.nl
 ·rw[em,cm];exact(kFa hS.made.ok.mid).2 hS.made.inv.nm
 ·unfold fromT trieS;rw[em,el,cm,cl]
end Go.Proofs.YtbmphakfgoompaaGreat

namespace Go.Proofs.YtbmphakfgoompaaGreat.VJ
theorem Made8.nl {f:Nat→El}{S:MkS El}(hS:Made8 f S):S.lows.Nodup:=hS.made.inv.nl
theorem kAm (many:Nat)(ag:Nat→Bool):∀(l l':List Nat) (n:Nat),kAn many ag (l++l') n=(kAn many ag l n).bind (fun m=>kAn many ag l' m)
 | [],l',n=>rfl
 | x :: l,l',n=>by
  rw[List.cons_append,kAn,kAn]
  split
  ·exact kAm many ag l l' (n+1)
  ·split
   ·rfl
   ·exact kAm many ag l l' n
theorem kA5 {many:Nat}{ag:Nat→Bool}:∀ {l:List Nat} {n m:Nat},kAn many ag l n=some m→n≤m∧∀x∈l,x<m
 | [],n,m,h=>by simp only[kAn,Option.some.injEq]at h;exact⟨by omega,fun x hx=>by simp at hx⟩
 | y :: l,n,m,h=>by
  rw[kAn]at h
  split at h
  ·rename_i hc
   obtain⟨h1,h2⟩:=kA5 h;refine⟨by omega,fun x hx=> ?_⟩
   rcases List.mem_cons.1 hx with rfl | hx
   ·omega
   ·exact h2 x hx
  ·split at h
   ·cases h
   ·rename_i hc hd
    obtain⟨h1,h2⟩:=kA5 h;refine⟨h1,fun x hx=> ?_⟩
    rcases List.mem_cons.1 hx with rfl | hx
    ·have:¬n≤x:=fun e=>hd (.inl e)
     omega
    ·exact h2 x hx
theorem kC7 (many:Nat):∀(l:List Nat) (n:Nat),(∀x∈l,x<n)→kAn many (fun _=>true) l n=some n
 | [],n,_=>rfl
 | x :: l,n,h=>by
  have hx:=h x (by simp);rw[kAn,if_neg (by omega),if_neg (by simp;omega)];exact kC7 many l n (fun y hy=>h y (by simp[hy]))
theorem kBq (many n x:Nat)(h:x<n):kAn many (fun _=>true) [x] n=some n:=kC7 many [x] n (fun y hy=>by rw[List.mem_singleton.1 hy];exact h)
theorem kB6 (many n:Nat)(h:n<many):kAn many (fun _=>true) [n] n=some (n+1):=by rw[kAn,if_pos ⟨rfl,h⟩];rfl
theorem kCi {many many':Nat}(h:many≤many'):∀ {l:List Nat} {n m:Nat},kAn many (fun _=>true) l n=some m→kAn many' (fun _=>true) l n=some m
 | [],n,m,e=>e
 | x :: l,n,m,e=>by
  rw[kAn]at e ⊢
  split at e
  ·rename_i hc
   rw[if_pos ⟨hc.1,by omega⟩];exact kCi h e
  ·rename_i hc
   split at e
   ·cases e
   ·rename_i hd
    have hx:x<n:=by
     have:¬n≤x:=fun e=>hd (.inl e)
     omega
    rw[if_neg (by omega),if_neg hd];exact kCi h e
theorem kCh {β:Type} [DecidableEq β] {L:List (List β)}{b:List β}(hL:∀m∈L,m.length=b.length):
  (∃k,k<L.length∧L[k]? =some b∧kBg (fun x y=>decide (x=y)) L b=(L,k))∨(b∉L∧kBg (fun x y=>decide (x=y)) L b=(L++[b],L.length)):=by
 unfold kBg
 cases h:kAq (fun x y=>decide (x=y)) b L with
 | some k=>
  have h1:=kDx hL h;exact .inl ⟨k,(List.getElem?_eq_some_iff.1 h1).1,h1,rfl⟩
 | none=>exact .inr ⟨kDw hL h,rfl⟩
structure CanI (k:Nat) (S:MkS El):Prop where
 low:kAn S.lows.length (fun _=>true) (S.mids.flatten++S.cur.take (k % 64)) 0=some S.lows.length
 top:kAn S.mids.length (fun _=>true) (S.top.take (k / 64)) 0=some S.mids.length
theorem canI (f:Nat→El):∀k,k≤17408→CanI k (mkF f k):=by
 intro k
 induction k with
 | zero=>intro _;exact⟨rfl,rfl⟩
 | succ k ih=>
  intro hk;obtain⟨h1,h2⟩:=ih (by omega);obtain⟨hw,hb, -, -⟩:=kCj f k
  obtain⟨S,hS⟩:∃S,S=mkF f k:=⟨_,rfl⟩
  rw[mkF,←hS];rw[←hS]at h1 h2 hw hb
  have hcl:k % 64<S.cur.length:=by rw[hw.cur];omega
  -- the low block
  have hN:∃x L',kBg eq8 S.lows (blkF f k)=(L',x)∧kAn L'.length (fun _=>true) (S.mids.flatten++(S.cur.set (k % 64) x).take (k % 64+1)) 0=some L'.length:=by
   have e:(S.cur.set (k % 64) ·)=fun x=>S.cur.set (k % 64) x:=rfl
   have hset:∀x,(S.cur.set (k % 64) x).take (k % 64+1)=S.cur.take (k % 64)++[x]:=fun x=>by
    rw[List.take_succ_eq_append_getElem (by simpa using hcl)];simp[List.take_set];exact List.set_eq_of_length_le (by simp;omega)
   rcases kCh (L:=S.lows) (b:=blkF f k) (fun m hm=>by rw[hw.low m hm,kAw])with⟨x,hx, -,h⟩ | ⟨-,h⟩
   ·refine⟨x,S.lows,h,?_⟩;rw[hset,←List.append_assoc,kAm,h1];exact kBq _ _ _ hx
   ·refine⟨S.lows.length,S.lows++[blkF f k],h,?_⟩;rw[hset,←List.append_assoc,kAm,List.length_append,List.length_singleton,kCi (Nat.le_succ _) h1];exact kB6 _ _ (by omega)
  obtain⟨x,L',hN1,hN2⟩:=hN
  by_cases hf:(k+1) % 64=0
  ·have hq:(k+1) / 64=k / 64+1:=by omega
   have h63:k % 64+1=64:=by omega
   have hcl2:(S.cur.set (k % 64) x).length=64:=by simpa using hw.cur
   rw[h63,List.take_of_length_le (by omega)]at hN2;rw[kBn (by rw[hb];exact hf)];simp only[hb,hN1]
   have htl:k / 64<S.top.length:=by rw[hw.top];omega
   have htop:∀y,(S.top.set (k / 64) y).take ((k+1) / 64)=S.top.take (k / 64)++[y]:=fun y=>by
    rw[hq,List.take_succ_eq_append_getElem (by simpa using htl)];simp[List.take_set];exact List.set_eq_of_length_le (by simp;omega)
   rcases kCh (L:=S.mids) (b:=S.cur.set (k % 64) x) (fun m hm=>by rw[hw.mid m hm,hcl2])with⟨y,hy,hyb,h⟩ | ⟨hnot,h⟩
   ·have h':kBg kDs S.mids (S.cur.set (k % 64) x)=(S.mids,y):=h;rw[h']
    refine⟨?_,?_⟩
    ·simp only[hf,List.take_zero,List.append_nil]
     -- the row is an old one:it names no new block
     have h3:∃n',kAn L'.length (fun _=>true) S.mids.flatten 0=some n':=by
      rw[kAm]at hN2
      cases e:kAn L'.length (fun _=>true) S.mids.flatten 0 with
      | none=>rw[e]at hN2;cases hN2
      | some n'=>exact⟨n',rfl⟩
     obtain⟨n',hn'⟩:=h3;have h4:=(kA5 hn').2;have h5:kAn L'.length (fun _=>true) (S.cur.set (k % 64) x) n'=some n':=kC7 _ _ _ (fun z hz=>h4 z (List.mem_flatten.2 ⟨_,List.mem_of_getElem? hyb,hz⟩));rw[kAm,hn']at hN2;rw[hn',←hN2];exact h5.symm
    ·simp only[htop];rw[kAm,h2];exact kBq _ _ _ hy
   ·have h':kBg kDs S.mids (S.cur.set (k % 64) x)=(S.mids++[S.cur.set (k % 64) x],S.mids.length):=h;rw[h']
    refine⟨?_,?_⟩
    ·simp only[hf,List.take_zero,List.append_nil,List.flatten_append,List.flatten_cons,List.flatten_nil];exact hN2
    ·simp only[htop];rw[kAm,List.length_append,List.length_singleton,kCi (Nat.le_succ _) h2];exact kB6 _ _ (by omega)
  ·have hq:(k+1) / 64=k / 64:=by omega
   have hm:(k+1) % 64=k % 64+1:=by omega
   rw[kBo (by rw[hb];exact hf)];simp only[hb,hN1]
   refine⟨?_,?_⟩
   ·simp only[hm];exact hN2
   ·simp only[hq];exact h2
theorem kEo {β:Type}(L:List (List β))(hl:∀l∈L,l.length=64):(List.range L.length).map (fun q=>(L.flatten.drop (64*q)).take 64)=L:=by
 induction L with
 | nil=>rfl
 | cons l L ih=>
  have h1:=hl l (by simp);rw[List.length_cons,List.range_succ_eq_map,List.map_cons,List.map_map]
  congr 1
  ·rw[List.flatten_cons,Nat.mul_zero,List.drop_zero,List.take_left' h1]
  ·rw[show(fun q=>List.take 64 (List.drop (64*q) (List.flatten (l :: L)))) ∘ Nat.succ=fun q=>List.take 64 (List.drop (64*q) L.flatten)from by
    funext q
    simp only[Function.comp,List.flatten_cons]
    rw[show 64*q.succ=l.length+64*q by rw[h1];omega,←List.drop_drop,List.drop_left]]
   exact ih (fun l hl2=>hl l (by simp[hl2]))
theorem kFa {β:Type} [DecidableEq β] {L:List (List β)}(hl:∀l∈L,l.length=64):(∀k (h:k<L.length),k<L.length→kAq (fun a b=>decide (a=b)) L[k] (L.take k)=none)↔L.Nodup:=by
 constructor
 ·intro h;rw[List.nodup_iff_pairwise_ne,List.pairwise_iff_getElem];intro i j hi hj hij e;have h1:=kDw (fun m hm=>by rw[hl m (List.mem_of_mem_take hm),hl _ (List.getElem_mem hj)]) (h j hj hj);exact h1 (by rw[←e,List.mem_take_iff_getElem];exact⟨i,by omega,rfl⟩)
 ·intro h k hk _
  cases e:kAq (fun a b=>decide (a=b)) L[k] (L.take k)with
  | none=>rfl
  | some i=>
   have h1:=kDx (fun m hm=>by rw[hl m (List.mem_of_mem_take hm),hl _ (List.getElem_mem hk)]) e;obtain⟨hi,h2⟩:=List.getElem?_eq_some_iff.1 h1;rw[List.length_take]at hi;rw[List.getElem_take]at h2;exact absurd h2 (List.pairwise_iff_getElem.1 (List.nodup_iff_pairwise_ne.1 h) i k (by omega) hk (by omega))
theorem Made8.fromOk {f:Nat→El}{S:MkS El}(hS:Made8 f S):FromOk S.top S.mids.flatten S.lows.flatten∧fromT S.top S.mids.flatten S.lows.flatten=trieS S:=by
 have hp:=hS.pos;have hm:=kG4 S.mids hS.made.ok.mid;have hl:=kG4 S.lows hS.made.ok.low
 have em:S.mids.flatten.length / 64=S.mids.length:=by omega
 have el:S.lows.flatten.length / 64=S.lows.length:=by omega
 have cm:VN.cksL S.mids.flatten S.mids.length=S.mids:=kEo S.mids hS.made.ok.mid;have cl:cksL S.lows.flatten S.lows.length=S.lows:=kEo S.lows hS.made.ok.low;have hml:=hS.ml;have hll:=hS.ll;obtain⟨K,hK,hSK⟩:=hS.eq;have hc:=canI f K (by omega);rw[←hSK]at hc;have hc1:=hc.low;have hc2:=hc.top;rw[show K % 64=0 by omega,List.take_zero,List.append_nil]at hc1;rw[show K / 64=272 by omega,List.take_of_length_le (by rw[hS.made.ok.top];exact Nat.le_refl _)]at hc2
 refine⟨⟨hS.made.ok.top,by omega,by omega,by omega,by omega,by omega,by omega,by rw[el];exact hc1,by rw[em];exact hc2,?_,?_⟩,?_⟩
 ·rw[el,cl];exact(kFa hS.made.ok.low).2 hS.nl
 ·rw[em,cm];exact(kFa hS.made.ok.mid).2 hS.made.inv.nm
 ·unfold fromT trieS;rw[em,el,cm,cl]
end Go.Proofs.YtbmphakfgoompaaGreat.VJ

namespace Go.Proofs.YtbmphakfgoompaaGreat
def partF (zT zM:List Nat) (zL:List Int) (r:Nat):Int:=zL.getD (64*(zM.getD (64*(zT.getD (r / 4096) 0)+r / 64 % 64) 0)+r % 64) 0
theorem kI3 (zT zM:List Nat)(zL:List Int)(KL k x:Nat)(hl:zL.length=64*KL)(hx:x<KL)(e:zM.getD (64*zT.getD (k / 64) 0+k % 64) 0=x):blkF (partF zT zM zL) k=ckL zL x:=by
 apply List.ext_getElem?
 intro i;unfold blkF;rw[List.getElem?_map]
 by_cases hi:i<64
 ·rw[List.getElem?_range hi,ckL_get zL x i hi];simp only[Option.map_some,partF];rw[show(64*k+i) / 4096=k / 64 by omega,show(64*k+i) / 64 % 64=k % 64 by omega,show(64*k+i) % 64=i by omega,e];rw[List.getD_eq_getElem?_getD,List.getElem?_eq_getElem (by omega)]
  rfl
 ·rw[List.getElem?_eq_none (by simp;omega),List.getElem?_eq_none (by rw[ckL_length zL KL x hl hx];omega)]
  rfl
theorem kHb {β:Type}{C:List β}(h:C.Nodup){i j:Nat}(hi:i<C.length)(hj:j<C.length)(e:C[i]=C[j]):i=j:=by
 have h1:=List.pairwise_iff_getElem.1 (List.nodup_iff_pairwise_ne.1 h)
 rcases Nat.lt_trichotomy i j with h2 | h2 | h2
 ·exact absurd e (h1 i j hi hj h2)
 ·exact h2
 ·exact absurd e.symm (h1 j i hj hi h2)
theorem kHd {β:Type} [DecidableEq β] {C:List (List β)}(hn:C.Nodup)(hl:∀l∈C,l.length=64){b x:Nat}(hb:b≤C.length)(hx:x<b):kBg (fun x y=>decide (x=y)) (C.take b) (C[x]'(by omega))=(C.take b,x):=by
 have hxl:x<C.length:=by omega
 rcases kCh (L:=C.take b) (b:=C[x]) (fun m hm=>by rw[hl m (List.mem_of_mem_take hm),hl _ (List.getElem_mem hxl)])with⟨k,hk,h1,h2⟩ | ⟨h1,h2⟩
 ·rw[h2];rw[List.length_take]at hk;rw[List.getElem?_take_of_lt (by omega),List.getElem?_eq_getElem (by omega)]at h1;rw[kHb hn (by omega) hxl (Option.some.inj h1)]
 ·exact absurd (List.mem_take_iff_getElem.2 ⟨x,by omega,rfl⟩) h1
theorem kHc {β:Type} [DecidableEq β] {C:List (List β)}(hn:C.Nodup)(hl:∀l∈C,l.length=64){b:Nat}(hb:b<C.length):kBg (fun x y=>decide (x=y)) (C.take b) C[b]=(C.take (b+1),b):=by
 rcases kCh (L:=C.take b) (b:=C[b]) (fun m hm=>by rw[hl m (List.mem_of_mem_take hm),hl _ (List.getElem_mem hb)])with⟨k,hk,h1,h2⟩ | ⟨h1,h2⟩
 ·rw[List.length_take]at hk;rw[List.getElem?_take_of_lt (by omega),List.getElem?_eq_getElem (by omega)]at h1;have:=kHb hn (by omega) hb (Option.some.inj h1);omega
 ·rw[h2,List.take_succ_eq_append_getElem hb,List.length_take,Nat.min_eq_left (by omega)]
theorem kEs {many:Nat}{l l':List Nat}{x n a m:Nat}(h:kAn many (fun _=>true) (l++x :: l') n=some m)(ha:kAn many (fun _=>true) l n=some a):(x=a∧a<many∧kAn many (fun _=>true) (l++[x]) n=some (a+1))∨(x<a∧kAn many (fun _=>true) (l++[x]) n=some a):=by
 rw[kAm,ha]at h;rw[kAm,ha];simp only[Option.bind_some]at h ⊢;rw[kAn]at h
 split at h
 ·rename_i hc
  exact .inl ⟨hc.1,hc.2,by rw[hc.1];exact kB6 _ _ hc.2⟩
 ·split at h
  ·cases h
  ·rename_i hc hd
   have hx:x<a:=by
    have:¬a≤x:=fun e=>hd (.inl e)
    omega
   exact .inr ⟨hx,kBq _ _ _ hx⟩
theorem kIa (zM:List Nat)(a KM i:Nat)(hz:zM.length=64*KM)(ha:a<KM)(hi:i<64):∃x l,zM[64*a+i]? =some x∧zM=(zM.take (64*a)++(VN.ckL zM a).take i)++x :: l∧(VN.ckL zM a).take (i+1)=(VN.ckL zM a).take i++[x]:=by
 have hlt:64*a+i<zM.length:=by omega
 refine⟨zM[64*a+i],zM.drop (64*a+i+1),List.getElem?_eq_getElem hlt,?_,?_⟩
 ·have h1:zM.take (64*a)++(VN.ckL zM a).take i=zM.take (64*a+i):=by
   unfold VN.ckL;rw[List.take_take,Nat.min_eq_left (by omega),List.take_add]
  rw[h1,←List.drop_eq_getElem_cons hlt,List.take_append_drop]
 ·have hl:=VN.ckL_length zM KM a hz ha;rw[List.take_succ_eq_append_getElem (by omega)]
  congr 2
  have h2:=VN.ckL_get zM a i hi;rw[List.getElem?_eq_getElem (by omega),List.getElem?_eq_getElem hlt]at h2;exact Option.some.inj h2
structure RdI (zT zM:List Nat) (zL:List Int) (KM KL k:Nat) (S:MkS Int) (a b:Nat):Prop where
 al:a≤KM
 bl:b≤KL
 na:kAn KM (fun _=>true) (zT.take (k / 64)) 0=some a
 mids:S.mids=(VN.cksL zM KM).take a
 nb:kAn KL (fun _=>true) (zM.take (64*a)++(VN.ckL zM (zT.getD (k / 64) 0)).take (k % 64)) 0=some b
 lows:S.lows=(cksL zL KL).take b
 cur:S.cur.take (k % 64)=(VN.ckL zM (zT.getD (k / 64) 0)).take (k % 64)
 top:S.top.take (k / 64)=zT.take (k / 64)
theorem cksL_get (zs:List Int)(K q:Nat)(h:q<(cksL zs K).length):(cksL zs K)[q]=ckL zs q:=by simp[cksL]
theorem VN.cksL_get (zs:List Nat)(K q:Nat)(h:q<(VN.cksL zs K).length):(VN.cksL zs K)[q]=VN.ckL zs q:=by simp[VN.cksL]
theorem rdI {zT zM:List Nat}{zL:List Int}{KM KL:Nat}(hT:zT.length=272)(hM:zM.length=64*KM)(hL:zL.length=64*KL)
  (nm:kAn KL (fun _=>true) zM 0=some KL)(nt:kAn KM (fun _=>true) zT 0=some KM)(ul:(cksL zL KL).Nodup)(um:(VN.cksL zM KM).Nodup):
  ∀k,k≤17408→∃a b,RdI zT zM zL KM KL k (mkF (partF zT zM zL) k) a b:=by
 have lM:(VN.cksL zM KM).length=KM:=VN.cksL_length zM KM;have lL:(cksL zL KL).length=KL:=cksL_length zL KL
 have hlM:∀l∈VN.cksL zM KM,l.length=64:=fun l hl=>by
  unfold VN.cksL at hl;obtain⟨q,hq,rfl⟩:=List.mem_map.1 hl;exact VN.ckL_length zM KM q hM (List.mem_range.1 hq)
 have hlL:∀l∈cksL zL KL,l.length=64:=fun l hl=>by
  unfold cksL at hl;obtain⟨q,hq,rfl⟩:=List.mem_map.1 hl;exact ckL_length zL KL q hL (List.mem_range.1 hq)
 intro k
 induction k with
 | zero=>intro _;exact⟨0,0,Nat.zero_le _,Nat.zero_le _,rfl,rfl,rfl,rfl,rfl,rfl⟩
 | succ k ih=>
  intro hk;obtain⟨a,b,h⟩:=ih (by omega);obtain⟨hw,hb, -, -⟩:=kCj (partF zT zM zL) k
  obtain⟨F,hF⟩:∃F,F=partF zT zM zL:=⟨_,rfl⟩
  rw[←hF]at h hw hb ⊢
  obtain⟨S,hS⟩:∃S,S=mkF F k:=⟨_,rfl⟩
  rw[mkF,←hS];rw[←hS]at h hw hb;obtain⟨h1,h2,h3,h4,h5,h6,h7,h8⟩:=h
  have hc:k / 64<zT.length:=by omega
  have hi:k % 64<64:=Nat.mod_lt _ (by omega)
  obtain⟨y,hy⟩:∃y,y=zT.getD (k / 64) 0:=⟨_,rfl⟩
  have hyg:zT[k / 64]=y:=by rw[hy,List.getD_eq_getElem?_getD,List.getElem?_eq_getElem hc];rfl
  rw[←hy]at h5 h7
  have hsp:zT=zT.take (k / 64)++y :: zT.drop (k / 64+1):=by
   rw[←hyg,←List.drop_eq_getElem_cons hc,List.take_append_drop]
  have hY:=kEs (l:=zT.take (k / 64)) (x:=y) (l':=zT.drop (k / 64+1)) (hsp ▸ nt) h3
  have hyk:y<KM:=by rcases hY with h | h<;>omega
  obtain⟨x,l,hx1,hx2,hx3⟩:=kIa zM y KM (k % 64) hM hyk hi
  have hX:(x=b∧b<KL∧kAn KL (fun _=>true) (zM.take (64*a)++(VN.ckL zM y).take (k % 64+1)) 0=some (b+1))∨(x<b∧kAn KL (fun _=>true) (zM.take (64*a)++(VN.ckL zM y).take (k % 64+1)) 0=some b):=by
   rw[hx3,←List.append_assoc]
   by_cases hya:y<a
   ·have hmem:x∈zM.take (64*a)++(VN.ckL zM y).take (k % 64):=List.mem_append_left _ (List.mem_take_iff_getElem.2 ⟨64*y+k % 64,by omega,(List.getElem?_eq_some_iff.1 hx1).2⟩);have hxb:=(kA5 h5).2 x hmem;refine .inr ⟨hxb,?_⟩;rw[kAm,h5];exact kBq _ _ _ hxb
   ·have hya:y=a:=by rcases hY with h | h<;>omega
    subst hya;exact kEs (l':=l) (hx2 ▸ nm) h5
  have hxl:x<KL:=by rcases hX with h | h<;>omega
  have hgx:zM.getD (64*zT.getD (k / 64) 0+k % 64) 0=x:=by
   rw[←hy,List.getD_eq_getElem?_getD,hx1];rfl
  have hblk:blkF F k=ckL zL x:=by rw[hF];exact kI3 zT zM zL KL k x hL hxl hgx
  have hN:∃b',b'≤KL∧kBg eq8 S.lows (blkF F k)=((cksL zL KL).take b',x)∧kAn KL (fun _=>true) (zM.take (64*a)++(VN.ckL zM y).take (k % 64+1)) 0=some b':=by
   rw[h6,hblk,←cksL_get zL KL x (by omega)]
   rcases hX with⟨rfl,e2,e3⟩ | ⟨e1,e2⟩
   ·exact⟨x+1,by omega,kHc ul hlL (by omega),e3⟩
   ·exact⟨b,h2,kHd ul hlL (by omega) e1,e2⟩
  obtain⟨b',hb',hN1,hN2⟩:=hN
  have hcl:k % 64<S.cur.length:=by rw[hw.cur];omega
  have hset:(S.cur.set (k % 64) x).take (k % 64+1)=(VN.ckL zM y).take (k % 64+1):=by
   rw[List.take_succ_eq_append_getElem (by simpa using hcl),hx3,←h7];simp[List.take_set];exact List.set_eq_of_length_le (by simp;omega)
  by_cases hf:(k+1) % 64=0
  ·have hq:(k+1) / 64=k / 64+1:=by omega
   have h63:k % 64+1=64:=by omega
   have hcy:=VN.ckL_length zM KM y hM hyk;rw[h63]at hset hN2;rw[List.take_of_length_le (l:=VN.ckL zM y) (by omega)]at hset hN2;rw[List.take_of_length_le (by simp[hw.cur])]at hset;rw[kBn (by rw[hb];exact hf)];simp only[hb,hN1,hset]
   have htl:k / 64<S.top.length:=by rw[hw.top];omega
   have htop:(S.top.set (k / 64) y).take (k / 64+1)=zT.take (k / 64+1):=by
    rw[List.take_succ_eq_append_getElem (by simpa using htl),List.take_succ_eq_append_getElem hc,hyg,←h8];simp[List.take_set];exact List.set_eq_of_length_le (by simp;omega)
   have htt:zT.take (k / 64)++[y]=zT.take (k / 64+1):=by rw[List.take_succ_eq_append_getElem hc,hyg]
   rw[h4,←VN.cksL_get zM KM y (by omega)]
   rcases hY with⟨rfl,e2,e3⟩ | ⟨e1,e2⟩
   ·have hB:kBg kDs ((VN.cksL zM KM).take y) ((VN.cksL zM KM)[y]'(by omega))=((VN.cksL zM KM).take (y+1),y):=kHc um hlM (by omega);rw[hB];refine⟨y+1,b',by omega,hb',by rw[hq,←htt];exact e3,rfl,?_,rfl,by rw[hf];rfl,by rw[hq];exact htop⟩;rw[hf,List.take_zero,List.append_nil,show 64*(y+1)=64*y+64 by omega,List.take_add];exact hN2
   ·have hB:kBg kDs ((VN.cksL zM KM).take a) ((VN.cksL zM KM)[y]'(by omega))=((VN.cksL zM KM).take a,y):=kHd um hlM (by omega) e1;rw[hB];refine⟨a,b',by omega,hb',by rw[hq,←htt];exact e2,rfl,?_,rfl,by rw[hf];rfl,by rw[hq];exact htop⟩;rw[hf,List.take_zero,List.append_nil];rw[kAm]at hN2
    cases e:kAn KL (fun _=>true) (zM.take (64*a)) 0 with
    | none=>rw[e]at hN2;cases hN2
    | some n'=>
     have e4:=(kA5 e).2;rw[e]at hN2;rw[←hN2];refine(kC7 _ _ _ (fun z hz=>e4 z ?_)).symm;unfold VN.ckL at hz;obtain⟨j,hj,rfl⟩:=List.mem_iff_getElem.1 hz;rw[List.length_take,List.length_drop]at hj;rw[List.getElem_take,List.getElem_drop];exact List.mem_take_iff_getElem.2 ⟨64*y+j,by omega,rfl⟩
  ·have hq:(k+1) / 64=k / 64:=by omega
   have hm:(k+1) % 64=k % 64+1:=by omega
   rw[kBo (by rw[hb];exact hf)];simp only[hb,hN1];exact⟨a,b',h1,hb',by rw[hq];exact h3,h4,by rw[hq,hm,←hy];exact hN2,rfl,by rw[hq,hm,←hy];exact hset,by rw[hq];exact h8⟩
theorem kI4 {β:Type}(z:List β):∀K,z.length=64*K→((List.range K).map (fun q=>(z.drop (64*q)).take 64)).flatten=z:=by
 intro K h
 have key:∀K,64*K≤z.length→((List.range K).map (fun q=>(z.drop (64*q)).take 64)).flatten=z.take (64*K):=by
  intro K
  induction K with
  | zero=>intro _;simp
  | succ K ih=>
   intro hK;rw[List.range_succ,List.map_append,List.flatten_append,ih (by omega)];simp only[List.map_cons,List.map_nil,List.flatten_cons,List.flatten_nil,List.append_nil];rw[show 64*(K+1)=64*K+64 by omega,List.take_add]
 rw[key K (by omega),List.take_of_length_le (by omega)]
def kM6 (zT zM:List Nat) (zL:List Int):Prop:=∀r,r≤1114111→64*zT.getD (r / 4096) 0+r / 64 % 64<zM.length∧64*(zM.getD (64*zT.getD (r / 4096) 0+r / 64 % 64) 0)+r % 64<zL.length
theorem kHz (zT zM:List Nat)(zL:List Int)(M:Nat)(hM:M=17408):
  FromOk zT zM zL↔zT.length=272∧kM6 zT zM zL∧(mkF (partF zT zM zL) M).top=zT∧(mkF (partF zT zM zL) M).mids.flatten=zM∧(mkF (partF zT zM zL) M).lows.flatten=zL:=by
 constructor
 ·intro h
  obtain⟨KM,hKM⟩:∃KM,KM=zM.length / 64:=⟨_,rfl⟩
  obtain⟨KL,hKL⟩:∃KL,KL=zL.length / 64:=⟨_,rfl⟩
  have h64:=h.m64;have h65:=h.l64
  have hm:zM.length=64*KM:=by omega
  have hl:zL.length=64*KL:=by omega
  have nm:=h.nm;have nt:=h.nt;have ul:=h.ul;have um:=h.um;rw[←hKL]at nm ul;rw[←hKM]at nt um;have lL:(cksL zL KL).length=KL:=cksL_length zL KL;have lM:(VN.cksL zM KM).length=KM:=VN.cksL_length zM KM
  have hlM:∀l∈VN.cksL zM KM,l.length=64:=fun l hl=>by
   unfold VN.cksL at hl;obtain⟨q,hq,rfl⟩:=List.mem_map.1 hl;exact VN.ckL_length zM KM q hm (List.mem_range.1 hq)
  have hlL:∀l∈cksL zL KL,l.length=64:=fun l hl2=>by
   unfold cksL at hl2;obtain⟨q,hq,rfl⟩:=List.mem_map.1 hl2;exact ckL_length zL KL q hl (List.mem_range.1 hq)
  have ul2:(cksL zL KL).Nodup:=(kFa hlL).1 (fun k h1 _=>ul k h1 (by omega));have um2:(VN.cksL zM KM).Nodup:=(kFa hlM).1 (fun k h1 _=>um k h1 (by omega));obtain⟨a,b,hr⟩:=rdI h.t hm hl nm nt ul2 um2 M (by omega);obtain⟨hw, -, -, -⟩:=kCj (partF zT zM zL) M;have hT:=h.t
  have q1:M / 64=272:=by omega
  have q2:M % 64=0:=by omega
  obtain⟨r1,r2,r3,r4,r5,r6,r7,r8⟩:=hr;rw[q1,List.take_of_length_le (by omega),nt]at r3;cases r3;rw[q1,List.take_of_length_le (by rw[hw.top];omega),List.take_of_length_le (by omega)]at r8;rw[q2,List.take_zero,List.append_nil,List.take_of_length_le (by omega),nm]at r5;cases r5;rw[List.take_of_length_le (by omega)]at r4 r6;have hbT:=(kA5 nt).2;have hbM:=(kA5 nm).2;refine⟨hT,fun r hr=> ?_,r8,by rw[r4];exact kI4 zM KM hm,by rw[r6];exact kI4 zL KL hl⟩
  have hc:r / 4096<zT.length:=by omega
  have e1:zT.getD (r / 4096) 0<KM:=by
   rw[List.getD_eq_getElem?_getD,List.getElem?_eq_getElem hc];exact hbT _ (List.getElem_mem hc)
  have e2:64*zT.getD (r / 4096) 0+r / 64 % 64<zM.length:=by omega
  refine⟨e2,?_⟩
  have e3:zM.getD (64*zT.getD (r / 4096) 0+r / 64 % 64) 0<KL:=by
   rw[List.getD_eq_getElem?_getD,List.getElem?_eq_getElem e2];exact hbM _ (List.getElem_mem e2)
  omega
 ·rintro⟨h1,h2,h3,h4,h5⟩;have hS:=made8 (partF zT zM zL) M hM;have:=(hS.fromOk).1;rw[h3,h4,h5]at this;exact this
theorem fromOk_made {zT zM:List Nat}{zL:List Int}(M:Nat)(hM:M=17408)(h:FromOk zT zM zL):Made8 (partF zT zM zL) (mkF (partF zT zM zL) M)∧fromT zT zM zL=trieS (mkF (partF zT zM zL) M):=by
 have hS:=made8 (partF zT zM zL) M hM;refine⟨hS,?_⟩;obtain⟨-, -,h3,h4,h5⟩:=(kHz zT zM zL M hM).1 h;have h6:=hS.fromOk.2;rw[h3,h4,h5]at h6;exact h6
end Go.Proofs.YtbmphakfgoompaaGreat

namespace Go.Proofs.YtbmphakfgoompaaGreat.VJ
def partF (zT zM:List Nat) (zL:List El) (r:Nat):Int:=zL.getD (64*(zM.getD (64*(zT.getD (r / 4096) 0)+r / 64 % 64) 0)+r % 64) 0
theorem kI3 (zT zM:List Nat)(zL:List El)(KL k x:Nat)(hl:zL.length=64*KL)(hx:x<KL)(e:zM.getD (64*zT.getD (k / 64) 0+k % 64) 0=x):blkF (partF zT zM zL) k=ckL zL x:=by
 apply List.ext_getElem?
 intro i;unfold blkF;rw[List.getElem?_map]
 by_cases hi:i<64
 ·rw[List.getElem?_range hi,ckL_get zL x i hi];simp only[Option.map_some,partF];rw[show(64*k+i) / 4096=k / 64 by omega,show(64*k+i) / 64 % 64=k % 64 by omega,show(64*k+i) % 64=i by omega,e];rw[List.getD_eq_getElem?_getD,List.getElem?_eq_getElem (by omega)]
  rfl
 ·rw[List.getElem?_eq_none (by simp;omega),List.getElem?_eq_none (by rw[ckL_length zL KL x hl hx];omega)]
  rfl
theorem kHb {β:Type}{C:List β}(h:C.Nodup){i j:Nat}(hi:i<C.length)(hj:j<C.length)(e:C[i]=C[j]):i=j:=by
 have h1:=List.pairwise_iff_getElem.1 (List.nodup_iff_pairwise_ne.1 h)
 rcases Nat.lt_trichotomy i j with h2 | h2 | h2
 ·exact absurd e (h1 i j hi hj h2)
 ·exact h2
 ·exact absurd e.symm (h1 j i hj hi h2)
theorem kHd {β:Type} [DecidableEq β] {C:List (List β)}(hn:C.Nodup)(hl:∀l∈C,l.length=64){b x:Nat}(hb:b≤C.length)(hx:x<b):kBg (fun x y=>decide (x=y)) (C.take b) (C[x]'(by omega))=(C.take b,x):=by
 have hxl:x<C.length:=by omega
 rcases kCh (L:=C.take b) (b:=C[x]) (fun m hm=>by rw[hl m (List.mem_of_mem_take hm),hl _ (List.getElem_mem hxl)])with⟨k,hk,h1,h2⟩ | ⟨h1,h2⟩
 ·rw[h2];rw[List.length_take]at hk;rw[List.getElem?_take_of_lt (by omega),List.getElem?_eq_getElem (by omega)]at h1;rw[kHb hn (by omega) hxl (Option.some.inj h1)]
 ·exact absurd (List.mem_take_iff_getElem.2 ⟨x,by omega,rfl⟩) h1
theorem kHc {β:Type} [DecidableEq β] {C:List (List β)}(hn:C.Nodup)(hl:∀l∈C,l.length=64){b:Nat}(hb:b<C.length):kBg (fun x y=>decide (x=y)) (C.take b) C[b]=(C.take (b+1),b):=by
 rcases kCh (L:=C.take b) (b:=C[b]) (fun m hm=>by rw[hl m (List.mem_of_mem_take hm),hl _ (List.getElem_mem hb)])with⟨k,hk,h1,h2⟩ | ⟨h1,h2⟩
 ·rw[List.length_take]at hk;rw[List.getElem?_take_of_lt (by omega),List.getElem?_eq_getElem (by omega)]at h1;have:=kHb hn (by omega) hb (Option.some.inj h1);omega
 ·rw[h2,List.take_succ_eq_append_getElem hb,List.length_take,Nat.min_eq_left (by omega)]
theorem kEs {many:Nat}{l l':List Nat}{x n a m:Nat}(h:kAn many (fun _=>true) (l++x :: l') n=some m)(ha:kAn many (fun _=>true) l n=some a):(x=a∧a<many∧kAn many (fun _=>true) (l++[x]) n=some (a+1))∨(x<a∧kAn many (fun _=>true) (l++[x]) n=some a):=by
 rw[kAm,ha]at h;rw[kAm,ha];simp only[Option.bind_some]at h ⊢;rw[kAn]at h
 split at h
 ·rename_i hc
  exact .inl ⟨hc.1,hc.2,by rw[hc.1];exact kB6 _ _ hc.2⟩
 ·split at h
  ·cases h
  ·rename_i hc hd
   have hx:x<a:=by
    have:¬a≤x:=fun e=>hd (.inl e)
    omega
   exact .inr ⟨hx,kBq _ _ _ hx⟩
theorem kIa (zM:List Nat)(a KM i:Nat)(hz:zM.length=64*KM)(ha:a<KM)(hi:i<64):∃x l,zM[64*a+i]? =some x∧zM=(zM.take (64*a)++(VN.ckL zM a).take i)++x :: l∧(VN.ckL zM a).take (i+1)=(VN.ckL zM a).take i++[x]:=by
 have hlt:64*a+i<zM.length:=by omega
 refine⟨zM[64*a+i],zM.drop (64*a+i+1),List.getElem?_eq_getElem hlt,?_,?_⟩
 ·have h1:zM.take (64*a)++(VN.ckL zM a).take i=zM.take (64*a+i):=by
   unfold VN.ckL;rw[List.take_take,Nat.min_eq_left (by omega),List.take_add]
  rw[h1,←List.drop_eq_getElem_cons hlt,List.take_append_drop]
 ·have hl:=VN.ckL_length zM KM a hz ha;rw[List.take_succ_eq_append_getElem (by omega)]
  congr 2
  have h2:=VN.ckL_get zM a i hi;rw[List.getElem?_eq_getElem (by omega),List.getElem?_eq_getElem hlt]at h2;exact Option.some.inj h2
structure RdI (zT zM:List Nat) (zL:List El) (KM KL k:Nat) (S:MkS El) (a b:Nat):Prop where
 al:a≤KM
 bl:b≤KL
 na:kAn KM (fun _=>true) (zT.take (k / 64)) 0=some a
 mids:S.mids=(VN.cksL zM KM).take a
 nb:kAn KL (fun _=>true) (zM.take (64*a)++(VN.ckL zM (zT.getD (k / 64) 0)).take (k % 64)) 0=some b
 lows:S.lows=(cksL zL KL).take b
 cur:S.cur.take (k % 64)=(VN.ckL zM (zT.getD (k / 64) 0)).take (k % 64)
 top:S.top.take (k / 64)=zT.take (k / 64)
theorem cksL_get (zs:List El)(K q:Nat)(h:q<(cksL zs K).length):(cksL zs K)[q]=ckL zs q:=by simp[cksL]
theorem VN.cksL_get (zs:List Nat)(K q:Nat)(h:q<(VN.cksL zs K).length):(VN.cksL zs K)[q]=VN.ckL zs q:=by simp[VN.cksL]
theorem rdI {zT zM:List Nat}{zL:List El}{KM KL:Nat}(hT:zT.length=272)(hM:zM.length=64*KM)(hL:zL.length=64*KL)
  (nm:kAn KL (fun _=>true) zM 0=some KL)(nt:kAn KM (fun _=>true) zT 0=some KM)(ul:(cksL zL KL).Nodup)(um:(VN.cksL zM KM).Nodup):
  ∀k,k≤17408→∃a b,RdI zT zM zL KM KL k (mkF (partF zT zM zL) k) a b:=by
 have lM:(VN.cksL zM KM).length=KM:=VN.cksL_length zM KM;have lL:(cksL zL KL).length=KL:=cksL_length zL KL
 have hlM:∀l∈VN.cksL zM KM,l.length=64:=fun l hl=>by
  unfold VN.cksL at hl;obtain⟨q,hq,rfl⟩:=List.mem_map.1 hl;exact VN.ckL_length zM KM q hM (List.mem_range.1 hq)
 have hlL:∀l∈cksL zL KL,l.length=64:=fun l hl=>by
  unfold cksL at hl;obtain⟨q,hq,rfl⟩:=List.mem_map.1 hl;exact ckL_length zL KL q hL (List.mem_range.1 hq)
 intro k
 induction k with
 | zero=>intro _;exact⟨0,0,Nat.zero_le _,Nat.zero_le _,rfl,rfl,rfl,rfl,rfl,rfl⟩
 | succ k ih=>
  intro hk;obtain⟨a,b,h⟩:=ih (by omega);obtain⟨hw,hb, -, -⟩:=kCj (partF zT zM zL) k
  obtain⟨F,hF⟩:∃F,F=partF zT zM zL:=⟨_,rfl⟩
  rw[←hF]at h hw hb ⊢
  obtain⟨S,hS⟩:∃S,S=mkF F k:=⟨_,rfl⟩
  rw[mkF,←hS];rw[←hS]at h hw hb;obtain⟨h1,h2,h3,h4,h5,h6,h7,h8⟩:=h
  have hc:k / 64<zT.length:=by omega
  have hi:k % 64<64:=Nat.mod_lt _ (by omega)
  obtain⟨y,hy⟩:∃y,y=zT.getD (k / 64) 0:=⟨_,rfl⟩
  have hyg:zT[k / 64]=y:=by rw[hy,List.getD_eq_getElem?_getD,List.getElem?_eq_getElem hc];rfl
  rw[←hy]at h5 h7
  have hsp:zT=zT.take (k / 64)++y :: zT.drop (k / 64+1):=by
   rw[←hyg,←List.drop_eq_getElem_cons hc,List.take_append_drop]
  have hY:=kEs (l:=zT.take (k / 64)) (x:=y) (l':=zT.drop (k / 64+1)) (hsp ▸ nt) h3
  have hyk:y<KM:=by rcases hY with h | h<;>omega
  obtain⟨x,l,hx1,hx2,hx3⟩:=kIa zM y KM (k % 64) hM hyk hi
  have hX:(x=b∧b<KL∧kAn KL (fun _=>true) (zM.take (64*a)++(VN.ckL zM y).take (k % 64+1)) 0=some (b+1))∨(x<b∧kAn KL (fun _=>true) (zM.take (64*a)++(VN.ckL zM y).take (k % 64+1)) 0=some b):=by
   rw[hx3,←List.append_assoc]
   by_cases hya:y<a
   ·have hmem:x∈zM.take (64*a)++(VN.ckL zM y).take (k % 64):=List.mem_append_left _ (List.mem_take_iff_getElem.2 ⟨64*y+k % 64,by omega,(List.getElem?_eq_some_iff.1 hx1).2⟩);have hxb:=(kA5 h5).2 x hmem;refine .inr ⟨hxb,?_⟩;rw[kAm,h5];exact kBq _ _ _ hxb
   ·have hya:y=a:=by rcases hY with h | h<;>omega
    subst hya;exact kEs (l':=l) (hx2 ▸ nm) h5
  have hxl:x<KL:=by rcases hX with h | h<;>omega
  have hgx:zM.getD (64*zT.getD (k / 64) 0+k % 64) 0=x:=by
   rw[←hy,List.getD_eq_getElem?_getD,hx1];rfl
  have hblk:blkF F k=ckL zL x:=by rw[hF];exact kI3 zT zM zL KL k x hL hxl hgx
  have hN:∃b',b'≤KL∧kBg eq8 S.lows (blkF F k)=((cksL zL KL).take b',x)∧kAn KL (fun _=>true) (zM.take (64*a)++(VN.ckL zM y).take (k % 64+1)) 0=some b':=by
   rw[h6,hblk,←cksL_get zL KL x (by omega)]
   rcases hX with⟨rfl,e2,e3⟩ | ⟨e1,e2⟩
   ·exact⟨x+1,by omega,kHc ul hlL (by omega),e3⟩
   ·exact⟨b,h2,kHd ul hlL (by omega) e1,e2⟩
  obtain⟨b',hb',hN1,hN2⟩:=hN
  have hcl:k % 64<S.cur.length:=by rw[hw.cur];omega
  have hset:(S.cur.set (k % 64) x).take (k % 64+1)=(VN.ckL zM y).take (k % 64+1):=by
   rw[List.take_succ_eq_append_getElem (by simpa using hcl),hx3,←h7];simp[List.take_set];exact List.set_eq_of_length_le (by simp;omega)
  by_cases hf:(k+1) % 64=0
  ·have hq:(k+1) / 64=k / 64+1:=by omega
   have h63:k % 64+1=64:=by omega
   have hcy:=VN.ckL_length zM KM y hM hyk;rw[h63]at hset hN2;rw[List.take_of_length_le (l:=VN.ckL zM y) (by omega)]at hset hN2;rw[List.take_of_length_le (by simp[hw.cur])]at hset;rw[kBn (by rw[hb];exact hf)];simp only[hb,hN1,hset]
   have htl:k / 64<S.top.length:=by rw[hw.top];omega
   have htop:(S.top.set (k / 64) y).take (k / 64+1)=zT.take (k / 64+1):=by
    rw[List.take_succ_eq_append_getElem (by simpa using htl),List.take_succ_eq_append_getElem hc,hyg,←h8];simp[List.take_set];exact List.set_eq_of_length_le (by simp;omega)
   have htt:zT.take (k / 64)++[y]=zT.take (k / 64+1):=by rw[List.take_succ_eq_append_getElem hc,hyg]
   rw[h4,←VN.cksL_get zM KM y (by omega)]
   rcases hY with⟨rfl,e2,e3⟩ | ⟨e1,e2⟩
   ·have hB:kBg kDs ((VN.cksL zM KM).take y) ((VN.cksL zM KM)[y]'(by omega))=((VN.cksL zM KM).take (y+1),y):=kHc um hlM (by omega);rw[hB];refine⟨y+1,b',by omega,hb',by rw[hq,←htt];exact e3,rfl,?_,rfl,by rw[hf];rfl,by rw[hq];exact htop⟩;rw[hf,List.take_zero,List.append_nil,show 64*(y+1)=64*y+64 by omega,List.take_add];exact hN2
   ·have hB:kBg kDs ((VN.cksL zM KM).take a) ((VN.cksL zM KM)[y]'(by omega))=((VN.cksL zM KM).take a,y):=kHd um hlM (by omega) e1;rw[hB];refine⟨a,b',by omega,hb',by rw[hq,←htt];exact e2,rfl,?_,rfl,by rw[hf];rfl,by rw[hq];exact htop⟩;rw[hf,List.take_zero,List.append_nil];rw[kAm]at hN2
    cases e:kAn KL (fun _=>true) (zM.take (64*a)) 0 with
    | none=>rw[e]at hN2;cases hN2
    | some n'=>
     have e4:=(kA5 e).2;rw[e]at hN2;rw[←hN2];refine(kC7 _ _ _ (fun z hz=>e4 z ?_)).symm;unfold VN.ckL at hz;obtain⟨j,hj,rfl⟩:=List.mem_iff_getElem.1 hz;rw[List.length_take,List.length_drop]at hj;rw[List.getElem_take,List.getElem_drop];exact List.mem_take_iff_getElem.2 ⟨64*y+j,by omega,rfl⟩
  ·have hq:(k+1) / 64=k / 64:=by omega
   have hm:(k+1) % 64=k % 64+1:=by omega
   rw[kBo (by rw[hb];exact hf)];simp only[hb,hN1];exact⟨a,b',h1,hb',by rw[hq];exact h3,h4,by rw[hq,hm,←hy];exact hN2,rfl,by rw[hq,hm,←hy];exact hset,by rw[hq];exact h8⟩
theorem kI4 {β:Type}(z:List β):∀K,z.length=64*K→((List.range K).map (fun q=>(z.drop (64*q)).take 64)).flatten=z:=by
 intro K h
 have key:∀K,64*K≤z.length→((List.range K).map (fun q=>(z.drop (64*q)).take 64)).flatten=z.take (64*K):=by
  intro K
  induction K with
  | zero=>intro _;simp
  | succ K ih=>
   intro hK;rw[List.range_succ,List.map_append,List.flatten_append,ih (by omega)];simp only[List.map_cons,List.map_nil,List.flatten_cons,List.flatten_nil,List.append_nil];rw[show 64*(K+1)=64*K+64 by omega,List.take_add]
 rw[key K (by omega),List.take_of_length_le (by omega)]
def kM6 (zT zM:List Nat) (zL:List El):Prop:=∀r,r≤1114111→64*zT.getD (r / 4096) 0+r / 64 % 64<zM.length∧64*(zM.getD (64*zT.getD (r / 4096) 0+r / 64 % 64) 0)+r % 64<zL.length
theorem kHz (zT zM:List Nat)(zL:List El)(M:Nat)(hM:M=17408):
  FromOk zT zM zL↔zT.length=272∧kM6 zT zM zL∧(mkF (partF zT zM zL) M).top=zT∧(mkF (partF zT zM zL) M).mids.flatten=zM∧(mkF (partF zT zM zL) M).lows.flatten=zL:=by
 constructor
 ·intro h
  obtain⟨KM,hKM⟩:∃KM,KM=zM.length / 64:=⟨_,rfl⟩
  obtain⟨KL,hKL⟩:∃KL,KL=zL.length / 64:=⟨_,rfl⟩
  have h64:=h.m64;have h65:=h.l64
  have hm:zM.length=64*KM:=by omega
  have hl:zL.length=64*KL:=by omega
  have nm:=h.nm;have nt:=h.nt;have ul:=h.ul;have um:=h.um;rw[←hKL]at nm ul;rw[←hKM]at nt um;have lL:(cksL zL KL).length=KL:=cksL_length zL KL;have lM:(VN.cksL zM KM).length=KM:=VN.cksL_length zM KM
  have hlM:∀l∈VN.cksL zM KM,l.length=64:=fun l hl=>by
   unfold VN.cksL at hl;obtain⟨q,hq,rfl⟩:=List.mem_map.1 hl;exact VN.ckL_length zM KM q hm (List.mem_range.1 hq)
  have hlL:∀l∈cksL zL KL,l.length=64:=fun l hl2=>by
   unfold cksL at hl2;obtain⟨q,hq,rfl⟩:=List.mem_map.1 hl2;exact ckL_length zL KL q hl (List.mem_range.1 hq)
  have ul2:(cksL zL KL).Nodup:=(kFa hlL).1 (fun k h1 _=>ul k h1 (by omega));have um2:(VN.cksL zM KM).Nodup:=(kFa hlM).1 (fun k h1 _=>um k h1 (by omega));obtain⟨a,b,hr⟩:=rdI h.t hm hl nm nt ul2 um2 M (by omega);obtain⟨hw, -, -, -⟩:=kCj (partF zT zM zL) M;have hT:=h.t
  have q1:M / 64=272:=by omega
  have q2:M % 64=0:=by omega
  obtain⟨r1,r2,r3,r4,r5,r6,r7,r8⟩:=hr;rw[q1,List.take_of_length_le (by omega),nt]at r3;cases r3;rw[q1,List.take_of_length_le (by rw[hw.top];omega),List.take_of_length_le (by omega)]at r8;rw[q2,List.take_zero,List.append_nil,List.take_of_length_le (by omega),nm]at r5;cases r5;rw[List.take_of_length_le (by omega)]at r4 r6;have hbT:=(kA5 nt).2;have hbM:=(kA5 nm).2;refine⟨hT,fun r hr=> ?_,r8,by rw[r4];exact kI4 zM KM hm,by rw[r6];exact kI4 zL KL hl⟩
  have hc:r / 4096<zT.length:=by omega
  have e1:zT.getD (r / 4096) 0<KM:=by
   rw[List.getD_eq_getElem?_getD,List.getElem?_eq_getElem hc];exact hbT _ (List.getElem_mem hc)
  have e2:64*zT.getD (r / 4096) 0+r / 64 % 64<zM.length:=by omega
  refine⟨e2,?_⟩
  have e3:zM.getD (64*zT.getD (r / 4096) 0+r / 64 % 64) 0<KL:=by
   rw[List.getD_eq_getElem?_getD,List.getElem?_eq_getElem e2];exact hbM _ (List.getElem_mem e2)
  omega
 ·rintro⟨h1,h2,h3,h4,h5⟩;have hS:=made8 (partF zT zM zL) M hM;have:=(hS.fromOk).1;rw[h3,h4,h5]at this;exact this
theorem fromOk_made {zT zM:List Nat}{zL:List El}(M:Nat)(hM:M=17408)(h:FromOk zT zM zL):Made8 (partF zT zM zL) (mkF (partF zT zM zL) M)∧fromT zT zM zL=trieS (mkF (partF zT zM zL) M):=by
 have hS:=made8 (partF zT zM zL) M hM;refine⟨hS,?_⟩;obtain⟨-, -,h3,h4,h5⟩:=(kHz zT zM zL M hM).1 h;have h6:=hS.fromOk.2;rw[h3,h4,h5]at h6;exact h6
end Go.Proofs.YtbmphakfgoompaaGreat.VJ
