/- several texts in one: LM8 RR1 RJ RP RR2 RR3 RZ RR4 RIJ RR5 -/
import Derived.Test.YtabbabkmojaoaaaNS
import Derived.Test.YtabbabkmojaoaaaNT
import Derived.Test.YtabbabkmojaoaaaNJ
import Derived.Test.YtabbabkmojaoaaaNO
import Derived.Test.YtabbabkmojaoaaaNQ
import Derived.Test.YtabbabkmojaoaaaNG
import Derived.Test.YtabbabkmojaoaaaNP
import Derived.Lib.AppendZerosOnto
import Derived.Test.YtabbabkmojaoaaaNE
import Derived.Test.YtabbabkmojaoaaaNF
set_option linter.unusedVariables false
set_option linter.unusedSimpArgs false
set_option maxRecDepth 100000
set_option maxHeartbeats 16000000
namespace Go.Proofs.Ytabbabkmojaoaaa
open Go.RowKit
theorem kIl {F:Nat→Int}{f:Nat→Int}{of:Int→Int}{N:Nat}(hf:∀r,r<N→f r=of (F r))(k:Nat)(hk:64*(k+1)≤N):blkF f k=(Go.Proofs.Ytabbabkmojaoaaa.blkF F k).map of:=by
 apply List.ext_getElem
 ·simp[blkF,Go.Proofs.Ytabbabkmojaoaaa.blkF]
 ·intro i h1 h2;simp[blkF]at h1;simp[blkF,Go.Proofs.Ytabbabkmojaoaaa.blkF,hf (64*k+i) (by omega)]
theorem kH8 {F:Nat→Int}{f:Nat→Int}{of:Int→Int}{N:Nat}(hi:kKn of)(hf:∀r,r<N→f r=of (F r))(hr:∀r,r<N→kI7 (F r)):∀k,64*k≤N→mkF f k=kMl of (Go.Proofs.Ytabbabkmojaoaaa.mkF F k)∧∀l∈(Go.Proofs.Ytabbabkmojaoaaa.mkF F k).lows,∀x∈l,kI7 x
 | 0,_=>⟨rfl,fun l hl=>by cases hl⟩
 | k+1,hk=>by
  obtain⟨h1,h2⟩:=kH8 hi hf hr k (by omega)
  have hb:∀x∈Go.Proofs.Ytabbabkmojaoaaa.blkF F k,kI7 x:=fun x hx=>by
   simp only[Go.Proofs.Ytabbabkmojaoaaa.blkF,List.mem_map,List.mem_range]at hx;obtain⟨i,hi,rfl⟩:=hx;exact hr _ (by omega)
  rw[mkF,Go.Proofs.Ytabbabkmojaoaaa.mkF,h1,kIl hf k (by omega)];exact⟨kKo hi hb h2,kJo hb h2⟩
theorem lkOk {F:Nat→Int}{f:Nat→Int}{of:Int→Int}{S:MkS Int}{N M:Nat}(hN:N=1114112)(hM:M=17408)(hS:kBu f S)(hi:kKn of)(hf:∀r,r<N→f r=of (F r))(hr:∀r,r<N→0≤F r∧F r≤255):kK2 (kA1 S) (Go.Proofs.Ytabbabkmojaoaaa.mkF F M) F of N:=by
 obtain⟨K,hK,hSe⟩:=hS.eq;obtain⟨h1,h2⟩:=kH8 hi hf hr M (by omega)
 have hSM:S=kMl of (Go.Proofs.Ytabbabkmojaoaaa.mkF F M):=by rw[hSe,show K=M by omega,h1]
 refine⟨hS.trie,hS.pos.1,?_,?_,?_,fun r hr'=> ?_,hr,hi,h2⟩
 ·show S.top=_
  rw[hSM];rfl
 ·show S.mids=_
  rw[hSM];rfl
 ·show S.lows=_
  rw[hSM];rfl
 ·rw[hS.look r (by omega),hf r hr']
end Go.Proofs.Ytabbabkmojaoaaa

namespace Go.Proofs.Ytabbabkmojaoaaa
open Go.RowKit
attribute [local go_sem] Oper.semAt_some
end Go.Proofs.Ytabbabkmojaoaaa

namespace Go.Proofs.Ytabbabkmojaoaaa
open Go.RowKit
section
variable {P : Program} {tS E : TypeId} {zv : Value} {bytes : Nat} {i s iB iA sB sA z : Nat} {n m : Nat} {xs ys : List Value} {l : Array Bool} {a : Act} {T : Nat → Prop} {w : World}
end
end Go.Proofs.Ytabbabkmojaoaaa

namespace Go.Proofs.Ytabbabkmojaoaaa
end Go.Proofs.Ytabbabkmojaoaaa

namespace Go.Proofs.Ytabbabkmojaoaaa
open Go.RowKit
attribute [local go_sem] Oper.semAt_some
end Go.Proofs.Ytabbabkmojaoaaa

namespace Go.Proofs.Ytabbabkmojaoaaa
open Go.RowKit
attribute [local go_sem] Oper.semAt_some
end Go.Proofs.Ytabbabkmojaoaaa

namespace Go.Proofs.Ytabbabkmojaoaaa
open Go.RowKit
end Go.Proofs.Ytabbabkmojaoaaa

namespace Go.Proofs.Ytabbabkmojaoaaa
open Go.RowKit
attribute [local go_sem] Oper.semAt_some
end Go.Proofs.Ytabbabkmojaoaaa

namespace Go.Proofs.Ytabbabkmojaoaaa
open Go.RowKit
attribute [local go_sem] Oper.semAt_some
section
variable {F : Fence} {n : Nat} {P : Program} {ops : Array Oper} {Q : Exit → Act → World → Prop} {md : Region.Mode} {C : World → Prop}
end
end Go.Proofs.Ytabbabkmojaoaaa

namespace Go.Proofs.Ytabbabkmojaoaaa
open Go.RowKit
attribute [local go_sem] Oper.semAt_some
theorem kKu {rest:Int}{l:List SpanD}(hr:0≤rest∧rest≤255)(hv:∀s∈l,0≤s.v∧s.v≤255)(r:Nat):0≤fS rest l r∧fS rest l r≤255:=by
 unfold fS
 by_cases h0:ownF l (r:Nat)=0
 ·rw[if_pos h0];exact hr
 ·rw[if_neg h0];obtain⟨i,hi, -,h2⟩:=kHn h0;rw[h2,show((i:Int)+1 - 1).toNat=i by omega]
  have:l.getD i default=l[i]:=by simp[hi]
  rw[this];exact hv _ (List.getElem_mem hi)
end Go.Proofs.Ytabbabkmojaoaaa
