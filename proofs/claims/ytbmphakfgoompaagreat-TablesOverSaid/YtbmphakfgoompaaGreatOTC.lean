/- several texts in one: TC -/
import Derived.Test.YtbmphakfgoompaaGreatOTD
import Derived.Test.YtbmphakfgoompaaGreatOTR
set_option linter.unusedVariables false
set_option linter.unusedSimpArgs false
set_option maxRecDepth 100000
set_option maxHeartbeats 16000000
namespace Go.Proofs.YtbmphakfgoompaaGreat
theorem kTt (f:Nat→Int)(k:Nat):∀j (i:Nat),(∀x,(mkF f k).lows[i]? =some x→(mkF f (k+j)).lows[i]? =some x)∧(∀x,(mkF f k).mids[i]? =some x→(mkF f (k+j)).mids[i]? =some x):=by
 intro j
 induction j with
 | zero=>exact fun i=>⟨fun x h=>h,fun x h=>h⟩
 | succ j ih=>
  intro i;obtain⟨h1,h2⟩:=ih i;obtain⟨hw, -⟩:=kCj f (k+j);have hN:=kJj (L:=(mkF f (k+j)).lows) (b:=blkF f (k+j)) (fun m hm=>by rw[hw.low m hm,kAw]);rw[←Nat.add_assoc,mkF]
  by_cases h7:((mkF f (k+j)).blocks+1) % 64=0
  ·rw[kBn h7];have hM:=kJj (L:=(mkF f (k+j)).mids) (b:=(mkF f (k+j)).cur.set ((mkF f (k+j)).blocks % 64) (kBg eq8 (mkF f (k+j)).lows (blkF f (k+j))).2) (fun m hm=>by rw[hw.mid m hm];simp[hw.cur]);exact⟨fun x h=>hN.pre i x (h1 x h),fun x h=>hM.pre i x (h2 x h)⟩
  ·rw[kBo h7];exact⟨fun x h=>hN.pre i x (h1 x h),fun x h=>h2 x h⟩
theorem kQw {β:Type}{l:List β}(h:l.Nodup){i j:Nat}{x:β}(hi:l[i]? =some x)(hj:l[j]? =some x):i=j:=by
 obtain⟨hi1,rfl⟩:=List.getElem?_eq_some_iff.1 hi;obtain⟨hj1,hj2⟩:=List.getElem?_eq_some_iff.1 hj
 rcases Nat.lt_trichotomy i j with h4 | h4 | h4
 ·exact absurd hj2.symm (List.pairwise_iff_getElem.1 h i j hi1 hj1 h4)
 ·exact h4
 ·exact absurd hj2 (List.pairwise_iff_getElem.1 h j i hj1 hi1 h4)
end Go.Proofs.YtbmphakfgoompaaGreat
