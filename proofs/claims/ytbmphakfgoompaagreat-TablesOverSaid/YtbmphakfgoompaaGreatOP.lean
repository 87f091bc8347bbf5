/- several texts in one: UPK US -/
import Derived.Deep.RegionHeld3
import Derived.Deep.RegionLaw
import Derived.Test.YtbmphakfgoompaaGreatOR
import Derived.Test.YtbmphakfgoompaaGreatOTR
import Derived.Test.YtbmphakfgoompaaGreatOTW
import Derived.Test.YtbmphakfgoompaaGreatO3
import Derived.Test.YtbmphakfgoompaaGreatOPF
import Derived.Test.YtbmphakfgoompaaGreatOST
import Derived.Lib.QuietBelow
import Derived.Deep.QuietTactic
set_option linter.unusedVariables false
set_option linter.unusedSimpArgs false
set_option maxRecDepth 100000
set_option maxHeartbeats 16000000
namespace Go.Proofs.YtbmphakfgoompaaGreat
open Go.RowKit
def Ow8 (B:Nat) (w:World) (s1 s2 s3:Value) (T:kAp Int):Prop:=∃at_ ct am cm al cl,s1= .slice at_ 272 ct∧s2= .slice am (64*T.mid.length) cm∧s3= .slice al (64*T.low.length) cl∧
 Own B 29 w at_ 272 ct (T.top.map kAb)∧Own B 29 w am (64*T.mid.length) cm (kCs kAb T.mid)∧Own B 22 w al (64*T.low.length) cl (kCs val8 T.low)
def OwJ (B:Nat) (w:World) (s1 s2 s3:Value) (T:kAp Int):Prop:=∃at_ ct am cm al cl,s1= .slice at_ 272 ct∧s2= .slice am (64*T.mid.length) cm∧s3= .slice al (64*T.low.length) cl∧
 Own B 29 w at_ 272 ct (T.top.map kAb)∧Own B 29 w am (64*T.mid.length) cm (kCs kAb T.mid)∧Own B 21 w al (64*T.low.length) cl (kCs VJ.val8 T.low)
theorem kCc {α:Type}(val:α→Value)(L:List (List α)):kCs val L=L.flatten.map val:=by
 unfold kCs;rw[List.map_flatten,List.flatMap_def]
theorem kCp {B:Nat}{E:TypeId}{w:World}{a:Option Addr}{n c:Nat}{zs:List Nat}(h:Own B E w a n c (zs.map kAb)):kCa w a zs:=fun i hi=>by
 have hn:zs.length=n:=by have:=h.len;rwa[List.length_map]at this
 obtain⟨g,rfl, -⟩:=h.at (by omega);have:=h.cell i (by rw[List.length_map];exact hi);rw[List.getElem_map]at this;exact⟨g,0,rfl,by rw[Nat.zero_add];exact this⟩
theorem kOh {B:Nat}{E:TypeId}{w:World}{a:Option Addr}{n c:Nat}{zs:List Int}(h:Own B E w a n c (zs.map val8)):RowAt w a zs:=fun i hi=>by
 have hn:zs.length=n:=by have:=h.len;rwa[List.length_map]at this
 obtain⟨g,rfl, -⟩:=h.at (by omega);have:=h.cell i (by rw[List.length_map];exact hi);rw[List.getElem_map]at this;exact⟨g,0,rfl,by rw[Nat.zero_add];exact this⟩
theorem kIx {B:Nat}{E:TypeId}{w:World}{a:Option Addr}{n c:Nat}{zs:List Int}(h:Own B E w a n c (zs.map VJ.val8)):VJ.RowAt w a zs:=fun i hi=>by
 have hn:zs.length=n:=by have:=h.len;rwa[List.length_map]at this
 obtain⟨g,rfl, -⟩:=h.at (by omega);have:=h.cell i (by rw[List.length_map];exact hi);rw[List.getElem_map]at this;exact⟨g,0,rfl,by rw[Nat.zero_add];exact this⟩
theorem kK4 {α:Type}{L:List (List α)}{x:α}(h:x∈L.flatten):∃l∈L,x∈l:=List.mem_flatten.1 h
theorem Ow8.p8 {B:Nat}{w:World}{s1 s2 s3:Value}{T:kAp Int}(h:Ow8 B w s1 s2 s3 T)(hk:kBk T):P8 w s1 s2 s3 T.top T.mid.flatten T.low.flatten:=by
 obtain⟨a1,c1,a2,c2,a3,c3,rfl,rfl,rfl,h1,h2,h3⟩:=h;rw[kCc]at h2 h3
 have hm:=hk.midL;have hl:=hk.lowL
 refine⟨⟨a1,272,c1,a2,_,c2,a3,_,c3,rfl,rfl,rfl,hk.top,by have:=h2.len;rwa[List.length_map]at this,by have:=h3.len;rwa[List.length_map]at this,h1.cap,h2.cap,h3.cap,kCp h1,kCp h2,kOh h3⟩,fun z hz=> ?_,fun z hz=> ?_⟩
 ·have:=hk.topN z hz;omega
 ·obtain⟨m,h1,h2⟩:=kK4 hz
  have:=hk.midN m h1 z h2;omega
theorem OwJ.pJ {B:Nat}{w:World}{s1 s2 s3:Value}{T:kAp Int}(h:OwJ B w s1 s2 s3 T)(hk:kBk T):PJ w s1 s2 s3 T.top T.mid.flatten T.low.flatten:=by
 obtain⟨a1,c1,a2,c2,a3,c3,rfl,rfl,rfl,h1,h2,h3⟩:=h;rw[kCc]at h2 h3
 have hm:=hk.midL;have hl:=hk.lowL
 refine⟨⟨a1,272,c1,a2,_,c2,a3,_,c3,rfl,rfl,rfl,hk.top,by have:=h2.len;rwa[List.length_map]at this,by have:=h3.len;rwa[List.length_map]at this,h1.cap,h2.cap,h3.cap,kCp h1,kCp h2,kIx h3⟩,fun z hz=> ?_,fun z hz=> ?_⟩
 ·have:=hk.topN z hz;omega
 ·obtain⟨m,h1,h2⟩:=kK4 hz
  have:=hk.midN m h1 z h2;omega
theorem Ow8.below {B:Nat}{w w':World}{s1 s2 s3:Value}{T:kAp Int}(h:Ow8 B w s1 s2 s3 T)(hb:Below w.heap.size w w'):Ow8 B w' s1 s2 s3 T:=by
 obtain⟨a1,c1,a2,c2,a3,c3,h1,h2,h3,h4,h5,h6⟩:=h;exact⟨a1,c1,a2,c2,a3,c3,h1,h2,h3,h4.below hb jR,h5.below hb jR,h6.below hb jR⟩
theorem OwJ.below {B:Nat}{w w':World}{s1 s2 s3:Value}{T:kAp Int}(h:OwJ B w s1 s2 s3 T)(hb:Below w.heap.size w w'):OwJ B w' s1 s2 s3 T:=by
 obtain⟨a1,c1,a2,c2,a3,c3,h1,h2,h3,h4,h5,h6⟩:=h;exact⟨a1,c1,a2,c2,a3,c3,h1,h2,h3,h4.below hb jR,h5.below hb jR,h6.below hb jR⟩
theorem Ow8.mono {B B':Nat}{w:World}{s1 s2 s3:Value}{T:kAp Int}(h:Ow8 B w s1 s2 s3 T)(hb:B'≤B):Ow8 B' w s1 s2 s3 T:=by
 obtain⟨a1,c1,a2,c2,a3,c3,h1,h2,h3,h4,h5,h6⟩:=h;exact⟨a1,c1,a2,c2,a3,c3,h1,h2,h3,h4.mono hb,h5.mono hb,h6.mono hb⟩
theorem OwJ.mono {B B':Nat}{w:World}{s1 s2 s3:Value}{T:kAp Int}(h:OwJ B w s1 s2 s3 T)(hb:B'≤B):OwJ B' w s1 s2 s3 T:=by
 obtain⟨a1,c1,a2,c2,a3,c3,h1,h2,h3,h4,h5,h6⟩:=h;exact⟨a1,c1,a2,c2,a3,c3,h1,h2,h3,h4.mono hb,h5.mono hb,h6.mono hb⟩
theorem kG2 {P:Program}{o:Oper}{a:Act}{w:World}(ty:TypeId)(x y:Operand)(ho:o.op= .store ty x y)(g:Nat)(cells:Array Value)(hx:a.eval x= .pointer (some ⟨g,0,none⟩))(hy:a.eval y= .agg cells)
  (t:TypeId)(old:Array Value)(hg:w.heap[g]? =some (.cells old t (0,0)))(hi:(P.info? ty).map (·.size)=some cells.size)(hold:old.size=cells.size)(h1:cells.all (·.oneCell')=true):
  (execOp a.eval o).run P w= .ok .skip (w.setRow g cells):=by
 unfold execOp;simp only[ho,hx,hy,Instr.storeAt,Instr.sureAddr,Sem.run_bind,Sem.run_pure,Result.andThen_ok,run_storeVar_row w g t ty old cells hg hi hold h1]
theorem kI9 {P:Program}{o:Oper}{a:Act}{w:World}(t:TypeId)(x0 x1 x2 x3:Operand)(ho:o.op= .build t #[(0,x0),(1,x1),(2,x2),(3,x3)])(v0 v1 v2 v3 v:Value)(h0:a.eval x0=v0)(h1:a.eval x1=v1)(h2:a.eval x2=v2)(h3:a.eval x3=v3)(hr:(Instr.build t #[(0,v0),(1,v1),(2,v2),(3,v3)]).run P w= .ok v w):
  (execOp a.eval o).run P w= .ok (.value v) w:=by
 subst h0 h1 h2 h3;unfold execOp;simp only[ho,List.map_toArray,List.map_cons,List.map_nil,Sem.run_bind,hr,Result.andThen_ok,Sem.run_pure]
theorem kMo (w:World)(p gc gb gt gm:Nat)(C B T M:kAp Int)(h:kHq w p gc gb gt gm C B T M):
  Calls Tryz.prog 45 #[.pointer (some ⟨p,0,none⟩)] w fun e w'=>∃s0 s1 s2 s3 s4 s5 s6 s7 s8 s9 s10 s11,e= .returned (.agg #[s0,s1,s2,s3,s4,s5,s6,s7,s8,s9,s10,s11])∧
   Ow8 w.heap.size w' s0 s1 s2 C∧OwJ w.heap.size w' s3 s4 s5 B∧OwJ w.heap.size w' s6 s7 s8 T∧OwJ w.heap.size w' s9 s10 s11 M∧Below w.heap.size w w':=by
 have kFc:=jH h;clear h
 have hA:=jN w (.cells #[.slice none 0 0,.slice none 0 0,.slice none 0 0,.slice none 0 0,.slice none 0 0,.slice none 0 0,.slice none 0 0,.slice none 0 0,.slice none 0 0,.slice none 0 0,.slice none 0 0,.slice none 0 0] 50);have hB:=(Below.refl _ w).alloc jR (.cells #[.slice none 0 0,.slice none 0 0,.slice none 0 0,.slice none 0 0,.slice none 0 0,.slice none 0 0,.slice none 0 0,.slice none 0 0,.slice none 0 0,.slice none 0 0,.slice none 0 0,.slice none 0 0] 50);have hz:=World.size_alloc w (.cells #[.slice none 0 0,.slice none 0 0,.slice none 0 0,.slice none 0 0,.slice none 0 0,.slice none 0 0,.slice none 0 0,.slice none 0 0,.slice none 0 0,.slice none 0 0,.slice none 0 0,.slice none 0 0] 50);have HI:=jH (And.intro hA (And.intro hB hz));clear hA hB hz
 go_enter Tryz.func45,Tryz.ntmps45
 go_wp2_with fail
 obtain⟨hA,hB,hz⟩:=HI.out;clear HI
 obtain⟨b0,hb0⟩:∃b0,b0=w.heap.size:=⟨_,rfl⟩
 rw[←hb0]at hA hz ⊢;generalize w.alloc (.cells #[.slice none 0 0,.slice none 0 0,.slice none 0 0,.slice none 0 0,.slice none 0 0,.slice none 0 0,.slice none 0 0,.slice none 0 0,.slice none 0 0,.slice none 0 0,.slice none 0 0,.slice none 0 0] 50)=w1 at*;refine(kD6 w1 p gc gb gt gm C B T M (kFc.out.below hB)).mono ?_;rintro e w2 ⟨rfl,h1⟩;subst h1;have HT2:=jH (kFc.out.below hB);have HA:=jH hA;have HB:Hid (Below b0 w w2):=jH (by rw[hb0];exact hB);have HZ:=jH hz;have HEq:=jH hb0;clear hA hB hz hb0 kFc
 go_upto_region 3 with(fail)
 refine(wpIn_wide (n:=2)).1 ?_;refine kAj [21] (fun w'=>w'.heap[p]? =some (.cells #[.pointer (some ⟨gc,0,none⟩),.pointer (some ⟨gb,0,none⟩),.pointer (some ⟨gt,0,none⟩),.pointer (some ⟨gm,0,none⟩)] 103 (0,0))) (by kernel_rfl) ?_;have HCx:=jH HT2.out.row;have HT:=jH (HT2.out.drew 1);have HA:=jH HA.out;refine' kAe (i:=0) (v:= .pointer (some ⟨p,0,none⟩)) [21] (by kernel_rfl) rfl (by rfl) (by kernel_rfl) (fun _ _ _ h=>h) (by rfl) ?h0 HCx.out ?k0
 case h0=>
  intro w' c0;have q:=jK w' p 0 _ _ (0,0) c0;simp only[jG,jI,jJ]at q
  go_simp
  try with_reducible rfl
 simp only[jA,jB,jC,Act.put,jD,jE,jF];refine' kAe (i:=1) (v:= .pointer (some ⟨p,0,none⟩)) [21] (by kernel_rfl) rfl (by rfl) (by kernel_rfl) (fun _ _ _ h=>h) (by rfl) ?h1 HCx.out ?k1
 case h1=>
  intro w' c0;have q:=jK w' p 0 _ _ (0,0) c0;simp only[jG,jI,jJ]at q
  go_simp
  try with_reducible rfl
 simp only[jA,jB,jC,Act.put,jD,jE,jF];refine' kAe (i:=2) (v:= .pointer (some ⟨p,0,none⟩)) [21] (by kernel_rfl) rfl (by rfl) (by kernel_rfl) (fun _ _ _ h=>h) (by rfl) ?h2 HCx.out ?k2
 case h2=>
  intro w' c0;have q:=jK w' p 0 _ _ (0,0) c0;simp only[jG,jI,jJ]at q
  go_simp
  try with_reducible rfl
 simp only[jA,jB,jC,Act.put,jD,jE,jF];refine' kAe (i:=3) (v:= .pointer (some ⟨gc,0,none⟩)) [21] (by kernel_rfl) rfl (by rfl) (by kernel_rfl) (fun _ _ _ h=>h) (by rfl) ?h3 HCx.out ?k3
 case h3=>
  intro w' c0;have q:=jK w' p 0 _ _ (0,0) c0;simp only[jG,jI,jJ]at q
  go_simp
  try with_reducible rfl
 simp only[jA,jB,jC,Act.put,jD,jE,jF];refine' kAe (i:=5) (v:= .pointer (some ⟨p,0,none⟩)) [21] (by kernel_rfl) rfl (by rfl) (by kernel_rfl) (fun _ _ _ h=>h) (by rfl) ?h5 HCx.out ?k5
 case h5=>
  intro w' c0;have q:=jK w' p 1 _ _ (0,0) c0;simp only[jG,jI,jJ]at q
  go_simp
  try with_reducible rfl
 simp only[jA,jB,jC,Act.put,jD,jE,jF];refine' kAe (i:=6) (v:= .pointer (some ⟨p,0,none⟩)) [21] (by kernel_rfl) rfl (by rfl) (by kernel_rfl) (fun _ _ _ h=>h) (by rfl) ?h6 HCx.out ?k6
 case h6=>
  intro w' c0;have q:=jK w' p 1 _ _ (0,0) c0;simp only[jG,jI,jJ]at q
  go_simp
  try with_reducible rfl
 simp only[jA,jB,jC,Act.put,jD,jE,jF];refine' kAe (i:=7) (v:= .pointer (some ⟨p,1,none⟩)) [21] (by kernel_rfl) rfl (by rfl) (by kernel_rfl) (fun _ _ _ h=>h) (by rfl) ?h7 HCx.out ?k7
 case h7=>
  intro w' c0;have q:=jK w' p 1 _ _ (0,0) c0;simp only[jG,jI,jJ]at q
  go_simp
  try with_reducible rfl
 simp only[jA,jB,jC,Act.put,jD,jE,jF];refine' kAe (i:=8) (v:= .pointer (some ⟨gb,0,none⟩)) [21] (by kernel_rfl) rfl (by rfl) (by kernel_rfl) (fun _ _ _ h=>h) (by rfl) ?h8 HCx.out ?k8
 case h8=>
  intro w' c0;have q:=jK w' p 1 _ _ (0,0) c0;simp only[jG,jI,jJ]at q
  go_simp
  try with_reducible rfl
 simp only[jA,jB,jC,Act.put,jD,jE,jF];refine' kAe (i:=10) (v:= .pointer (some ⟨p,0,none⟩)) [21] (by kernel_rfl) rfl (by rfl) (by kernel_rfl) (fun _ _ _ h=>h) (by rfl) ?h10 HCx.out ?k10
 case h10=>
  intro w' c0;have q:=jK w' p 2 _ _ (0,0) c0;simp only[jG,jI,jJ]at q
  go_simp
  try with_reducible rfl
 simp only[jA,jB,jC,Act.put,jD,jE,jF];refine' kAe (i:=11) (v:= .pointer (some ⟨p,0,none⟩)) [21] (by kernel_rfl) rfl (by rfl) (by kernel_rfl) (fun _ _ _ h=>h) (by rfl) ?h11 HCx.out ?k11
 case h11=>
  intro w' c0;have q:=jK w' p 2 _ _ (0,0) c0;simp only[jG,jI,jJ]at q
  go_simp
  try with_reducible rfl
 simp only[jA,jB,jC,Act.put,jD,jE,jF];refine' kAe (i:=12) (v:= .pointer (some ⟨p,2,none⟩)) [21] (by kernel_rfl) rfl (by rfl) (by kernel_rfl) (fun _ _ _ h=>h) (by rfl) ?h12 HCx.out ?k12
 case h12=>
  intro w' c0;have q:=jK w' p 2 _ _ (0,0) c0;simp only[jG,jI,jJ]at q
  go_simp
  try with_reducible rfl
 simp only[jA,jB,jC,Act.put,jD,jE,jF];refine' kAe (i:=13) (v:= .pointer (some ⟨gt,0,none⟩)) [21] (by kernel_rfl) rfl (by rfl) (by kernel_rfl) (fun _ _ _ h=>h) (by rfl) ?h13 HCx.out ?k13
 case h13=>
  intro w' c0;have q:=jK w' p 2 _ _ (0,0) c0;simp only[jG,jI,jJ]at q
  go_simp
  try with_reducible rfl
 simp only[jA,jB,jC,Act.put,jD,jE,jF];refine' kAe (i:=15) (v:= .pointer (some ⟨p,0,none⟩)) [21] (by kernel_rfl) rfl (by rfl) (by kernel_rfl) (fun _ _ _ h=>h) (by rfl) ?h15 HCx.out ?k15
 case h15=>
  intro w' c0;have q:=jK w' p 3 _ _ (0,0) c0;simp only[jG,jI,jJ]at q
  go_simp
  try with_reducible rfl
 simp only[jA,jB,jC,Act.put,jD,jE,jF];refine' kAe (i:=16) (v:= .pointer (some ⟨p,0,none⟩)) [21] (by kernel_rfl) rfl (by rfl) (by kernel_rfl) (fun _ _ _ h=>h) (by rfl) ?h16 HCx.out ?k16
 case h16=>
  intro w' c0;have q:=jK w' p 3 _ _ (0,0) c0;simp only[jG,jI,jJ]at q
  go_simp
  try with_reducible rfl
 simp only[jA,jB,jC,Act.put,jD,jE,jF];refine' kAe (i:=17) (v:= .pointer (some ⟨p,3,none⟩)) [21] (by kernel_rfl) rfl (by rfl) (by kernel_rfl) (fun _ _ _ h=>h) (by rfl) ?h17 HCx.out ?k17
 case h17=>
  intro w' c0;have q:=jK w' p 3 _ _ (0,0) c0;simp only[jG,jI,jJ]at q
  go_simp
  try with_reducible rfl
 simp only[jA,jB,jC,Act.put,jD,jE,jF];refine' kAe (i:=18) (v:= .pointer (some ⟨gm,0,none⟩)) [21] (by kernel_rfl) rfl (by rfl) (by kernel_rfl) (fun _ _ _ h=>h) (by rfl) ?h18 HCx.out ?k18
 case h18=>
  intro w' c0;have q:=jK w' p 3 _ _ (0,0) c0;simp only[jG,jI,jJ]at q
  go_simp
  try with_reducible rfl
 simp only[jA,jB,jC,Act.put,jD,jE,jF];have hd:Below w2.heap.size w2 w2.drew:=(Below.refl _ w2).drew;have HT0:=jH (HT2.out.below hd);have HA0:=jH ((hd.block b0 (by have:=HZ.out;omega)).trans HA.out);have HB0:=jH (HB.out.trans (hd.mono (by have:=HZ.out;omega)));have HC0:=jH HT0.out.row;have HS0:Hid (b0+1≤w2.drew.heap.size):=jH (by have:=HZ.out;have:=hd.size;omega);generalize w2.drew=x0 at*;clear hd HT HT2 HA HB HZ HCx;refine kAl (i:=4) (by kernel_rfl) ?_;refine kBa (i:=4) rfl (by rfl) (by rfl) (fun _ _=>trivial) (kBb 98 (.tmp 10) _ rfl (.pointer (some ⟨gc,0,none⟩)) rfl (enters_of Tryz.func98 (by kernel_rfl) rfl)) (fun h=>by cases h) ?_;refine callsIn_wide.2 ?_;refine(Parts8_walk x0 gc C HT0.out.okC HT0.out.posC HT0.out.atC).mono ?_;rintro e x1 ⟨a01,c01,a02,c02,a03,c03,rfl,o1,o2,o3,hb⟩;have HO0_0:Hid (Ow8 (b0+1) x1 _ _ _ C):=jH (Exists.intro a01 ⟨c01,a02,c02,a03,c03,rfl,rfl,rfl,o1.mono (by have:=HS0.out;omega),o2.mono (by have:=HS0.out;omega),o3.mono (by have:=HS0.out;omega)⟩);have HT1:=jH (HT0.out.below hb);have HA1:=jH ((hb.block b0 (by have:=HS0.out;omega)).trans HA0.out);have HB1:=jH (HB0.out.trans (hb.mono (by have:=HS0.out;omega)));have HC1:=jH HT1.out.row;have HS1:Hid (b0+1≤x1.heap.size):=jH (by have:=HS0.out;have:=hb.size;omega);clear o1 o2 o3 hb HT0 HA0 HB0 HC0 HS0;refine⟨_,rfl,fun _=>HC1.out,?_⟩;simp only[jA,jB,jC,Act.put,jD,jE,jF];refine kAl (i:=9) (by kernel_rfl) ?_;refine kBa (i:=9) rfl (by rfl) (by rfl) (fun _ _=>trivial) (kBb 99 (.tmp 15) _ rfl (.pointer (some ⟨gb,0,none⟩)) rfl (enters_of Tryz.func99 (by kernel_rfl) rfl)) (fun h=>by cases h) ?_;refine callsIn_wide.2 ?_;refine(VJ.Parts8_walk x1 gb B HT1.out.okB HT1.out.posB HT1.out.atB).mono ?_;rintro e x2 ⟨a11,c11,a12,c12,a13,c13,rfl,o1,o2,o3,hb⟩;have HO1_1:Hid (OwJ (b0+1) x2 _ _ _ B):=jH (Exists.intro a11 ⟨c11,a12,c12,a13,c13,rfl,rfl,rfl,o1.mono (by have:=HS1.out;omega),o2.mono (by have:=HS1.out;omega),o3.mono (by have:=HS1.out;omega)⟩);have HT2:=jH (HT1.out.below hb);have HA2:=jH ((hb.block b0 (by have:=HS1.out;omega)).trans HA1.out);have HB2:=jH (HB1.out.trans (hb.mono (by have:=HS1.out;omega)));have HC2:=jH HT2.out.row;have HS2:Hid (b0+1≤x2.heap.size):=jH (by have:=HS1.out;have:=hb.size;omega);have HO0_1:=jH (HO0_0.out.below hb);clear HO0_0;clear o1 o2 o3 hb HT1 HA1 HB1 HC1 HS1;refine⟨_,rfl,fun _=>HC2.out,?_⟩;simp only[jA,jB,jC,Act.put,jD,jE,jF];refine kAl (i:=14) (by kernel_rfl) ?_;refine kBa (i:=14) rfl (by rfl) (by rfl) (fun _ _=>trivial) (kBb 99 (.tmp 20) _ rfl (.pointer (some ⟨gt,0,none⟩)) rfl (enters_of Tryz.func99 (by kernel_rfl) rfl)) (fun h=>by cases h) ?_;refine callsIn_wide.2 ?_;refine(VJ.Parts8_walk x2 gt T HT2.out.okT HT2.out.posT HT2.out.atT).mono ?_;rintro e x3 ⟨a21,c21,a22,c22,a23,c23,rfl,o1,o2,o3,hb⟩;have HO2_2:Hid (OwJ (b0+1) x3 _ _ _ T):=jH (Exists.intro a21 ⟨c21,a22,c22,a23,c23,rfl,rfl,rfl,o1.mono (by have:=HS2.out;omega),o2.mono (by have:=HS2.out;omega),o3.mono (by have:=HS2.out;omega)⟩);have HT3:=jH (HT2.out.below hb);have HA3:=jH ((hb.block b0 (by have:=HS2.out;omega)).trans HA2.out);have HB3:=jH (HB2.out.trans (hb.mono (by have:=HS2.out;omega)));have HC3:=jH HT3.out.row;have HS3:Hid (b0+1≤x3.heap.size):=jH (by have:=HS2.out;have:=hb.size;omega);have HO0_2:=jH (HO0_1.out.below hb);clear HO0_1;have HO1_2:=jH (HO1_1.out.below hb);clear HO1_1;clear o1 o2 o3 hb HT2 HA2 HB2 HC2 HS2;refine⟨_,rfl,fun _=>HC3.out,?_⟩;simp only[jA,jB,jC,Act.put,jD,jE,jF];refine kAl (i:=19) (by kernel_rfl) ?_;refine kBa (i:=19) rfl (by rfl) (by rfl) (fun _ _=>trivial) (kBb 99 (.tmp 25) _ rfl (.pointer (some ⟨gm,0,none⟩)) rfl (enters_of Tryz.func99 (by kernel_rfl) rfl)) (fun h=>by cases h) ?_;refine callsIn_wide.2 ?_;refine(VJ.Parts8_walk x3 gm M HT3.out.okM HT3.out.posM HT3.out.atM).mono ?_;rintro e x4 ⟨a31,c31,a32,c32,a33,c33,rfl,o1,o2,o3,hb⟩;have HO3_3:Hid (OwJ (b0+1) x4 _ _ _ M):=jH (Exists.intro a31 ⟨c31,a32,c32,a33,c33,rfl,rfl,rfl,o1.mono (by have:=HS3.out;omega),o2.mono (by have:=HS3.out;omega),o3.mono (by have:=HS3.out;omega)⟩);have HT4:=jH (HT3.out.below hb);have HA4:=jH ((hb.block b0 (by have:=HS3.out;omega)).trans HA3.out);have HB4:=jH (HB3.out.trans (hb.mono (by have:=HS3.out;omega)));have HC4:=jH HT4.out.row;have HS4:Hid (b0+1≤x4.heap.size):=jH (by have:=HS3.out;have:=hb.size;omega);have HO0_3:=jH (HO0_2.out.below hb);clear HO0_2;have HO1_3:=jH (HO1_2.out.below hb);clear HO1_2;have HO2_3:=jH (HO2_2.out.below hb);clear HO2_2;clear o1 o2 o3 hb HT3 HA3 HB3 HC3 HS3;refine⟨_,rfl,fun _=>HC4.out,?_⟩;simp only[jA,jB,jC,Act.put,jD,jE,jF];refine kAl (i:=20) (by kernel_rfl) ?_;refine kB7 (i:=20) (v:= .agg #[.slice a01 272 c01,.slice a02 (64*C.mid.length) c02,.slice a03 (64*C.low.length) c03,.slice a11 272 c11,.slice a12 (64*B.mid.length) c12,.slice a13 (64*B.low.length) c13,.slice a21 272 c21,.slice a22 (64*T.mid.length) c22,.slice a23 (64*T.low.length) c23,.slice a31 272 c31,.slice a32 (64*M.mid.length) c32,.slice a33 (64*M.low.length) c33]) (w':=x4) rfl (by rfl) (fun _ _=>trivial) (by rfl) (kI9 50 (.tmp 11) (.tmp 16) (.tmp 21) (.tmp 26) rfl _ _ _ _ _ rfl rfl rfl rfl (by kernel_rfl)) (fun _=>HC4.out) ?_;simp only[jA,jB,jC,Act.put,jD,jE,jF];refine kAl (i:=21) (by kernel_rfl) ?_;refine kF8 (i:=21) (w':=x4.setRow b0 #[.slice a01 272 c01,.slice a02 (64*C.mid.length) c02,.slice a03 (64*C.low.length) c03,.slice a11 272 c11,.slice a12 (64*B.mid.length) c12,.slice a13 (64*B.low.length) c13,.slice a21 272 c21,.slice a22 (64*T.mid.length) c22,.slice a23 (64*T.low.length) c23,.slice a31 272 c31,.slice a32 (64*M.mid.length) c32,.slice a33 (64*M.low.length) c33]) rfl (by rfl) (fun _ _=>trivial) (by rfl) (kG2 50 (.tmp 2) (.tmp 27) rfl b0 _ rfl rfl 50 _ HA4.out (by kernel_rfl) rfl (by simp[Value.oneCell'])) (fun h=>absurd (by simp) h) ?_;refine⟨by kernel_rfl,?_⟩;have y2:=setRow_heap x4 b0 _ #[.slice a01 272 c01,.slice a02 (64*C.mid.length) c02,.slice a03 (64*C.low.length) c03,.slice a11 272 c11,.slice a12 (64*B.mid.length) c12,.slice a13 (64*B.low.length) c13,.slice a21 272 c21,.slice a22 (64*T.mid.length) c22,.slice a23 (64*T.low.length) c23,.slice a31 272 c31,.slice a32 (64*M.mid.length) c32,.slice a33 (64*M.low.length) c33] _ _ HA4.out
 have hO:∀(E:TypeId) (a:Option Addr) (n c:Nat) (xs:List Value),Own (b0+1) E x4 a n c xs→Own w.heap.size E (x4.setRow b0 #[.slice a01 272 c01,.slice a02 (64*C.mid.length) c02,.slice a03 (64*C.low.length) c03,.slice a11 272 c11,.slice a12 (64*B.mid.length) c12,.slice a13 (64*B.low.length) c13,.slice a21 272 c21,.slice a22 (64*T.mid.length) c22,.slice a23 (64*T.low.length) c23,.slice a31 272 c31,.slice a32 (64*M.mid.length) c32,.slice a33 (64*M.low.length) c33]) a n c xs:=fun E a n c xs h=>
  kEd h (by rw[←HEq.out];omega) (fun k hk=>setRow_other x4 b0 k _ (by have:=h.blk k hk;omega))
 have hb2:Below b0 w (x4.setRow b0 #[.slice a01 272 c01,.slice a02 (64*C.mid.length) c02,.slice a03 (64*C.low.length) c03,.slice a11 272 c11,.slice a12 (64*B.mid.length) c12,.slice a13 (64*B.low.length) c13,.slice a21 272 c21,.slice a22 (64*T.mid.length) c22,.slice a23 (64*T.low.length) c23,.slice a31 272 c31,.slice a32 (64*M.mid.length) c32,.slice a33 (64*M.low.length) c33]):=HB4.out.trans ⟨rfl,rfl,rfl,by rw[setRow_size];exact Nat.le_refl _,fun k hk=>setRow_other x4 b0 k _ (by omega)⟩;replace hb2:=hb2.mono (Nat.le_of_eq HEq.out.symm);obtain⟨_,_,_,_,_,_,e1,e2,e3,u1,u2,u3⟩:=HO0_3.out
 cases e1;cases e2;cases e3
 obtain⟨_,_,_,_,_,_,e1,e2,e3,u4,u5,u6⟩:=HO1_3.out
 cases e1;cases e2;cases e3
 obtain⟨_,_,_,_,_,_,e1,e2,e3,u7,u8,u9⟩:=HO2_3.out
 cases e1;cases e2;cases e3
 obtain⟨_,_,_,_,_,_,e1,e2,e3,u10,u11,u12⟩:=HO3_3.out
 cases e1;cases e2;cases e3
 have HR:=jH (show Ow8 w.heap.size (x4.setRow b0 #[.slice a01 272 c01,.slice a02 (64*C.mid.length) c02,.slice a03 (64*C.low.length) c03,.slice a11 272 c11,.slice a12 (64*B.mid.length) c12,.slice a13 (64*B.low.length) c13,.slice a21 272 c21,.slice a22 (64*T.mid.length) c22,.slice a23 (64*T.low.length) c23,.slice a31 272 c31,.slice a32 (64*M.mid.length) c32,.slice a33 (64*M.low.length) c33]) _ _ _ C∧OwJ w.heap.size (x4.setRow b0 #[.slice a01 272 c01,.slice a02 (64*C.mid.length) c02,.slice a03 (64*C.low.length) c03,.slice a11 272 c11,.slice a12 (64*B.mid.length) c12,.slice a13 (64*B.low.length) c13,.slice a21 272 c21,.slice a22 (64*T.mid.length) c22,.slice a23 (64*T.low.length) c23,.slice a31 272 c31,.slice a32 (64*M.mid.length) c32,.slice a33 (64*M.low.length) c33]) _ _ _ B∧OwJ w.heap.size (x4.setRow b0 #[.slice a01 272 c01,.slice a02 (64*C.mid.length) c02,.slice a03 (64*C.low.length) c03,.slice a11 272 c11,.slice a12 (64*B.mid.length) c12,.slice a13 (64*B.low.length) c13,.slice a21 272 c21,.slice a22 (64*T.mid.length) c22,.slice a23 (64*T.low.length) c23,.slice a31 272 c31,.slice a32 (64*M.mid.length) c32,.slice a33 (64*M.low.length) c33]) _ _ _ T∧OwJ w.heap.size (x4.setRow b0 #[.slice a01 272 c01,.slice a02 (64*C.mid.length) c02,.slice a03 (64*C.low.length) c03,.slice a11 272 c11,.slice a12 (64*B.mid.length) c12,.slice a13 (64*B.low.length) c13,.slice a21 272 c21,.slice a22 (64*T.mid.length) c22,.slice a23 (64*T.low.length) c23,.slice a31 272 c31,.slice a32 (64*M.mid.length) c32,.slice a33 (64*M.low.length) c33]) _ _ _ M∧Below w.heap.size w (x4.setRow b0 #[.slice a01 272 c01,.slice a02 (64*C.mid.length) c02,.slice a03 (64*C.low.length) c03,.slice a11 272 c11,.slice a12 (64*B.mid.length) c12,.slice a13 (64*B.low.length) c13,.slice a21 272 c21,.slice a22 (64*T.mid.length) c22,.slice a23 (64*T.low.length) c23,.slice a31 272 c31,.slice a32 (64*M.mid.length) c32,.slice a33 (64*M.low.length) c33])from
  ⟨⟨_,_,_,_,_,_,rfl,rfl,rfl,hO _ _ _ _ _ u1,hO _ _ _ _ _ u2,hO _ _ _ _ _ u3⟩,⟨_,_,_,_,_,_,rfl,rfl,rfl,hO _ _ _ _ _ u4,hO _ _ _ _ _ u5,hO _ _ _ _ _ u6⟩,⟨_,_,_,_,_,_,rfl,rfl,rfl,hO _ _ _ _ _ u7,hO _ _ _ _ _ u8,hO _ _ _ _ _ u9⟩,⟨_,_,_,_,_,_,rfl,rfl,rfl,hO _ _ _ _ _ u10,hO _ _ _ _ _ u11,hO _ _ _ _ _ u12⟩,hb2⟩)
 clear hO hb2 u1 u2 u3 u4 u5 u6 u7 u8 u9 u10 u11 u12 HO0_3 HO1_3 HO2_3 HO3_3 HT4 HA4 HB4 HC4 HS4;generalize x4.setRow b0 #[.slice a01 272 c01,.slice a02 (64*C.mid.length) c02,.slice a03 (64*C.low.length) c03,.slice a11 272 c11,.slice a12 (64*B.mid.length) c12,.slice a13 (64*B.low.length) c13,.slice a21 272 c21,.slice a22 (64*T.mid.length) c22,.slice a23 (64*T.low.length) c23,.slice a31 272 c31,.slice a32 (64*M.mid.length) c32,.slice a33 (64*M.low.length) c33]=w9 at*;go_wp2
 refine jS (results_cell_row Tryz.results45 _ _ b0 _ _ _ _ rfl y2 Tryz.underlying50 rfl (by kernel_rfl)) rfl ?_;exact⟨_,_,_,_,_,_,_,_,_,_,_,_,rfl,HR.out⟩
end Go.Proofs.YtbmphakfgoompaaGreat

namespace Go.Proofs.YtbmphakfgoompaaGreat
open Go.RowKit
def AkR (n:Nat) (w2:World) (iv:Value) (wr:World):Prop:=∃k:Nat,k≤n∧iv= .int .i64 (k:Nat)∧Below w2.heap.size w2 wr
theorem kM8 (w:World)(s1 s2 s3 t1 t2 t3:Value)(zT zM:List Nat)(zL:List Int)(h:P8 w s1 s2 s3 zT zM zL)(h':P8 w t1 t2 t3 zT zM zL):
  Calls Tryz.prog 42 #[.agg #[s1,s2,s3],.agg #[t1,t2,t3]] w fun e w'=>e= .returned (.bool true)∧Below w.heap.size w w':=by
 obtain⟨⟨aT,nT,cT,aM,nM,cM,aL,nL,cL,rfl,rfl,rfl,lT,lM,lL,bT,bM,bL,r1,r2,r3⟩,vT,vM⟩:=h;obtain⟨⟨sT,mT,dT,sM,mM,dM,sL,mL,dL,rfl,rfl,rfl,lT',lM',lL',bT',bM',bL',r1',r2',r3'⟩, -, -⟩:=h'
 obtain rfl:nT=mT:=by omega
 obtain rfl:nM=mM:=by omega
 obtain rfl:nL=mL:=by omega
 unfold maxLen at bT bM bL
 have LT:=jH lT;have LM:=jH lM;have LL:=jH lL;have R1:=jH r1;have R2:=jH r2;have R3:=jH r3;have S1:=jH r1';have S2:=jH r2';have S3:=jH r3'
 clear lT lM lL lT' lM' lL' r1 r2 r3 r1' r2' r3' bT' bM' bL' vT vM;have E1:=jN w (.cells #[.slice aT nT cT,.slice aM nM cM,.slice aL nL cL] 46);have E2:=(Below.refl _ w).alloc jR (.cells #[.slice aT nT cT,.slice aM nM cM,.slice aL nL cL] 46);have E3:=World.size_alloc w (.cells #[.slice aT nT cT,.slice aM nM cM,.slice aL nL cL] 46)
 go_enter Tryz.func42,Tryz.ntmps42
 go_upto_region 1 with(fail)
 generalize w.alloc (.cells #[.slice aT nT cT,.slice aM nM cM,.slice aL nL cL] 46)=w1 at*;have F1:=jN w1 (.cells #[.slice sT nT dT,.slice sM nM dM,.slice sL nL dL] 46);have F2:=(Below.refl _ w1).alloc jR (.cells #[.slice sT nT dT,.slice sM nM dM,.slice sL nL dL] 46);generalize w1.alloc (.cells #[.slice sT nT dT,.slice sM nM dM,.slice sL nL dL] 46)=w2 at*
 obtain⟨b0,hb0⟩:∃b0,b0=w.heap.size:=⟨_,rfl⟩
 rw[←hb0]at E1 E3 ⊢;rw[E3]at F1;have HB:Hid (Below w.heap.size w w2):=jH (E2.trans (F2.mono (by omega)));have X0:Hid (w2.heap[b0]? =some (.cells #[.slice aT nT cT,.slice aM nM cM,.slice aL nL cL] 46 (0,0))):=jH ((F2.block b0 (by omega)).trans E1);have X1:=jH F1;clear E1 E2 E3 F1 F2;have HBw:=HB;have HB:Hid (Below b0 w w2):=jH (by rw[hb0];exact HB.out)
 have R1:=jH (R1.out.below (by rw[←hb0];exact HB.out));have R2:=jH (R2.out.below (by rw[←hb0];exact HB.out));have R3:=jH (R3.out.below (by rw[←hb0];exact HB.out))
 have S1:=jH (S1.out.below (by rw[←hb0];exact HB.out));have S2:=jH (S2.out.below (by rw[←hb0];exact HB.out));have S3:=jH (S3.out.below (by rw[←hb0];exact HB.out))
 have HLe:=jH (show b0≤w2.heap.size by rw[hb0];exact HB.out.size);clear hb0
 have HCell:=jH (fun(W:World) (hb:Below w2.heap.size w2 W)=>show(W.cell? ⟨b0,0,none⟩=some (.slice aT nT cT)∧W.cell? ⟨b0,1,none⟩=some (.slice aM nM cM)∧W.cell? ⟨b0,2,none⟩=some (.slice aL nL cL))∧(W.cell? ⟨b0+1,0,none⟩=some (.slice sT nT dT)∧W.cell? ⟨b0+1,1,none⟩=some (.slice sM nM dM)∧W.cell? ⟨b0+1,2,none⟩=some (.slice sL nL dL))from by
  have x0:=(hb.block b0 (jL X0.out)).trans X0.out;have x1:=(hb.block (b0+1) (jL X1.out)).trans X1.out
  exact⟨⟨jK W b0 0 _ _ (0,0) x0,jK W b0 1 _ _ (0,0) x0,jK W b0 2 _ _ (0,0) x0⟩,⟨jK W (b0+1) 0 _ _ (0,0) x1,jK W (b0+1) 1 _ _ (0,0) x1,jK W (b0+1) 2 _ _ (0,0) x1⟩⟩)
 obtain⟨⟨p0,p1,p2⟩,⟨q0,q1,q2⟩⟩:=HCell.out w2 (Below.refl _ _);have HBl:=jH (Below.refl w2.heap.size w2);go_wp2
 clear p0 p1 p2 q0 q1 q2
 go_loopw [5] (AkR nT w2) (fun i _=>nT - (intOf i).toNat)
 case atStart=>exact⟨0,Nat.zero_le _,rfl,HBl.out⟩
 case round=>
  clear HBl;obtain⟨k,hk,rfl,hbel⟩:=hrel
  have HBl:=jH hbel;clear hbel
  obtain⟨⟨p0,p1,p2⟩,⟨q0,q1,q2⟩⟩:=HCell.out wr HBl.out
  by_cases hkn:k<nT
  ·have hki:(k:Int)<(nT:Int):=by omega
   have hkl:k<zT.length:=by rw[LT.out];exact hkn
   obtain⟨b1,o1,e1,c1⟩:=(R1.out.below HBl.out) k hkl;obtain⟨b2,o2,e2,c2⟩:=(S1.out.below HBl.out) k hkl;subst e1 e2;unfold kAb at c1 c2;generalize zT[k]=x at*
   have hxx:((x:Int) != (x:Int))=false:=by simp
   clear p1 q1 p2 q2;go_wp2
   go_quiet (fail)
   have HBq:Hid (Below w2.heap.size w2 (wr.drewN nq)):=jH (below_drewN HBl.out nq);clear c1 c2 p0 q0;generalize wr.drewN nq=w6 at*;go_wp2
   go_roundw
   case rel=>exact⟨k+1,by omega,by go_num,HBq.out⟩
   case measure=>simp[intOf];omega
  ·obtain rfl:k=nT:=by omega
   have hki:¬(k:Int)<(k:Int):=by omega
   go_wp2
   clear p0 p1 p2 q0 q1 q2
   go_loopw [6] (AkR nM w2) (fun i _=>nM - (intOf i).toNat)
   case atStart=>exact⟨0,Nat.zero_le _,rfl,HBl.out⟩
   case round=>
    clear HBl;obtain⟨k,hk,rfl,hbel⟩:=hrel
    have HBl:=jH hbel;clear hbel
    obtain⟨⟨p0,p1,p2⟩,⟨q0,q1,q2⟩⟩:=HCell.out wr HBl.out
    by_cases hkn:k<nM
    ·have hki:(k:Int)<(nM:Int):=by omega
     have hkl:k<zM.length:=by rw[LM.out];exact hkn
     obtain⟨b1,o1,e1,c1⟩:=(R2.out.below HBl.out) k hkl;obtain⟨b2,o2,e2,c2⟩:=(S2.out.below HBl.out) k hkl;subst e1 e2;unfold kAb at c1 c2;generalize zM[k]=x at*
     have hxx:((x:Int) != (x:Int))=false:=by simp
     clear p0 q0 p2 q2;go_wp2
     go_quiet (fail)
     have HBq:Hid (Below w2.heap.size w2 (wr.drewN nq)):=jH (below_drewN HBl.out nq);clear c1 c2 p1 q1;generalize wr.drewN nq=w6 at*;go_wp2
     go_roundw
     case rel=>exact⟨k+1,by omega,by go_num,HBq.out⟩
     case measure=>simp[intOf];omega
    ·obtain rfl:k=nM:=by omega
     have hki:¬(k:Int)<(k:Int):=by omega
     go_wp2
     clear p0 p1 p2 q0 q1 q2
     go_loopw [7] (AkR nL w2) (fun i _=>nL - (intOf i).toNat)
     case atStart=>exact⟨0,Nat.zero_le _,rfl,HBl.out⟩
     case round=>
      clear HBl;obtain⟨k,hk,rfl,hbel⟩:=hrel
      have HBl:=jH hbel;clear hbel
      obtain⟨⟨p0,p1,p2⟩,⟨q0,q1,q2⟩⟩:=HCell.out wr HBl.out
      by_cases hkn:k<nL
      ·have hki:(k:Int)<(nL:Int):=by omega
       have hkl:k<zL.length:=by rw[LL.out];exact hkn
       obtain⟨b1,o1,e1,c1⟩:=(R3.out.below HBl.out) k hkl;obtain⟨b2,o2,e2,c2⟩:=(S3.out.below HBl.out) k hkl;subst e1 e2;unfold val8 at c1 c2;generalize zL[k]=x at*
       have hxx:((x:Int) != (x:Int))=false:=by simp
       clear p0 q0 p1 q1;go_wp2
       go_quiet (fail)
       have HBq:Hid (Below w2.heap.size w2 (wr.drewN nq)):=jH (below_drewN HBl.out nq);clear c1 c2 p2 q2;generalize wr.drewN nq=w6 at*;go_wp2
       go_roundw
       case rel=>exact⟨k+1,by omega,by go_num,HBq.out⟩
       case measure=>simp[intOf];omega
      ·obtain rfl:k=nL:=by omega
       have hki:¬(k:Int)<(k:Int):=by omega
       go_wp2
       go_ret
       exact⟨rfl,HBw.out.trans (HBl.out.mono HBw.out.size)⟩
theorem kGd (w:World)(s1 s2 s3 t1 t2 t3:Value)(zT zM:List Nat)(zL:List Int)(h:PJ w s1 s2 s3 zT zM zL)(h':PJ w t1 t2 t3 zT zM zL):
  Calls Tryz.prog 43 #[.agg #[s1,s2,s3],.agg #[t1,t2,t3]] w fun e w'=>e= .returned (.bool true)∧Below w.heap.size w w':=by
 obtain⟨⟨aT,nT,cT,aM,nM,cM,aL,nL,cL,rfl,rfl,rfl,lT,lM,lL,bT,bM,bL,r1,r2,r3⟩,vT,vM⟩:=h;obtain⟨⟨sT,mT,dT,sM,mM,dM,sL,mL,dL,rfl,rfl,rfl,lT',lM',lL',bT',bM',bL',r1',r2',r3'⟩, -, -⟩:=h'
 obtain rfl:nT=mT:=by omega
 obtain rfl:nM=mM:=by omega
 obtain rfl:nL=mL:=by omega
 unfold maxLen at bT bM bL
 have LT:=jH lT;have LM:=jH lM;have LL:=jH lL;have R1:=jH r1;have R2:=jH r2;have R3:=jH r3;have S1:=jH r1';have S2:=jH r2';have S3:=jH r3'
 clear lT lM lL lT' lM' lL' r1 r2 r3 r1' r2' r3' bT' bM' bL' vT vM;have E1:=jN w (.cells #[.slice aT nT cT,.slice aM nM cM,.slice aL nL cL] 48);have E2:=(Below.refl _ w).alloc jR (.cells #[.slice aT nT cT,.slice aM nM cM,.slice aL nL cL] 48);have E3:=World.size_alloc w (.cells #[.slice aT nT cT,.slice aM nM cM,.slice aL nL cL] 48)
 go_enter Tryz.func43,Tryz.ntmps43
 go_upto_region 1 with(fail)
 generalize w.alloc (.cells #[.slice aT nT cT,.slice aM nM cM,.slice aL nL cL] 48)=w1 at*;have F1:=jN w1 (.cells #[.slice sT nT dT,.slice sM nM dM,.slice sL nL dL] 48);have F2:=(Below.refl _ w1).alloc jR (.cells #[.slice sT nT dT,.slice sM nM dM,.slice sL nL dL] 48);generalize w1.alloc (.cells #[.slice sT nT dT,.slice sM nM dM,.slice sL nL dL] 48)=w2 at*
 obtain⟨b0,hb0⟩:∃b0,b0=w.heap.size:=⟨_,rfl⟩
 rw[←hb0]at E1 E3 ⊢;rw[E3]at F1;have HB:Hid (Below w.heap.size w w2):=jH (E2.trans (F2.mono (by omega)));have X0:Hid (w2.heap[b0]? =some (.cells #[.slice aT nT cT,.slice aM nM cM,.slice aL nL cL] 48 (0,0))):=jH ((F2.block b0 (by omega)).trans E1);have X1:=jH F1;clear E1 E2 E3 F1 F2;have HBw:=HB;have HB:Hid (Below b0 w w2):=jH (by rw[hb0];exact HB.out)
 have R1:=jH (R1.out.below (by rw[←hb0];exact HB.out));have R2:=jH (R2.out.below (by rw[←hb0];exact HB.out));have R3:=jH (R3.out.below (by rw[←hb0];exact HB.out))
 have S1:=jH (S1.out.below (by rw[←hb0];exact HB.out));have S2:=jH (S2.out.below (by rw[←hb0];exact HB.out));have S3:=jH (S3.out.below (by rw[←hb0];exact HB.out))
 have HLe:=jH (show b0≤w2.heap.size by rw[hb0];exact HB.out.size);clear hb0
 have HCell:=jH (fun(W:World) (hb:Below w2.heap.size w2 W)=>show(W.cell? ⟨b0,0,none⟩=some (.slice aT nT cT)∧W.cell? ⟨b0,1,none⟩=some (.slice aM nM cM)∧W.cell? ⟨b0,2,none⟩=some (.slice aL nL cL))∧(W.cell? ⟨b0+1,0,none⟩=some (.slice sT nT dT)∧W.cell? ⟨b0+1,1,none⟩=some (.slice sM nM dM)∧W.cell? ⟨b0+1,2,none⟩=some (.slice sL nL dL))from by
  have x0:=(hb.block b0 (jL X0.out)).trans X0.out;have x1:=(hb.block (b0+1) (jL X1.out)).trans X1.out
  exact⟨⟨jK W b0 0 _ _ (0,0) x0,jK W b0 1 _ _ (0,0) x0,jK W b0 2 _ _ (0,0) x0⟩,⟨jK W (b0+1) 0 _ _ (0,0) x1,jK W (b0+1) 1 _ _ (0,0) x1,jK W (b0+1) 2 _ _ (0,0) x1⟩⟩)
 obtain⟨⟨p0,p1,p2⟩,⟨q0,q1,q2⟩⟩:=HCell.out w2 (Below.refl _ _);have HBl:=jH (Below.refl w2.heap.size w2);go_wp2
 clear p0 p1 p2 q0 q1 q2
 go_loopw [5] (AkR nT w2) (fun i _=>nT - (intOf i).toNat)
 case atStart=>exact⟨0,Nat.zero_le _,rfl,HBl.out⟩
 case round=>
  clear HBl;obtain⟨k,hk,rfl,hbel⟩:=hrel
  have HBl:=jH hbel;clear hbel
  obtain⟨⟨p0,p1,p2⟩,⟨q0,q1,q2⟩⟩:=HCell.out wr HBl.out
  by_cases hkn:k<nT
  ·have hki:(k:Int)<(nT:Int):=by omega
   have hkl:k<zT.length:=by rw[LT.out];exact hkn
   obtain⟨b1,o1,e1,c1⟩:=(R1.out.below HBl.out) k hkl;obtain⟨b2,o2,e2,c2⟩:=(S1.out.below HBl.out) k hkl;subst e1 e2;unfold kAb at c1 c2;generalize zT[k]=x at*
   have hxx:((x:Int) != (x:Int))=false:=by simp
   clear p1 q1 p2 q2;go_wp2
   go_quiet (fail)
   have HBq:Hid (Below w2.heap.size w2 (wr.drewN nq)):=jH (below_drewN HBl.out nq);clear c1 c2 p0 q0;generalize wr.drewN nq=w6 at*;go_wp2
   go_roundw
   case rel=>exact⟨k+1,by omega,by go_num,HBq.out⟩
   case measure=>simp[intOf];omega
  ·obtain rfl:k=nT:=by omega
   have hki:¬(k:Int)<(k:Int):=by omega
   go_wp2
   clear p0 p1 p2 q0 q1 q2
   go_loopw [6] (AkR nM w2) (fun i _=>nM - (intOf i).toNat)
   case atStart=>exact⟨0,Nat.zero_le _,rfl,HBl.out⟩
   case round=>
    clear HBl;obtain⟨k,hk,rfl,hbel⟩:=hrel
    have HBl:=jH hbel;clear hbel
    obtain⟨⟨p0,p1,p2⟩,⟨q0,q1,q2⟩⟩:=HCell.out wr HBl.out
    by_cases hkn:k<nM
    ·have hki:(k:Int)<(nM:Int):=by omega
     have hkl:k<zM.length:=by rw[LM.out];exact hkn
     obtain⟨b1,o1,e1,c1⟩:=(R2.out.below HBl.out) k hkl;obtain⟨b2,o2,e2,c2⟩:=(S2.out.below HBl.out) k hkl;subst e1 e2;unfold kAb at c1 c2;generalize zM[k]=x at*
     have hxx:((x:Int) != (x:Int))=false:=by simp
     clear p0 q0 p2 q2;go_wp2
     go_quiet (fail)
     have HBq:Hid (Below w2.heap.size w2 (wr.drewN nq)):=jH (below_drewN HBl.out nq);clear c1 c2 p1 q1;generalize wr.drewN nq=w6 at*;go_wp2
     go_roundw
     case rel=>exact⟨k+1,by omega,by go_num,HBq.out⟩
     case measure=>simp[intOf];omega
    ·obtain rfl:k=nM:=by omega
     have hki:¬(k:Int)<(k:Int):=by omega
     go_wp2
     clear p0 p1 p2 q0 q1 q2
     go_loopw [7] (AkR nL w2) (fun i _=>nL - (intOf i).toNat)
     case atStart=>exact⟨0,Nat.zero_le _,rfl,HBl.out⟩
     case round=>
      clear HBl;obtain⟨k,hk,rfl,hbel⟩:=hrel
      have HBl:=jH hbel;clear hbel
      obtain⟨⟨p0,p1,p2⟩,⟨q0,q1,q2⟩⟩:=HCell.out wr HBl.out
      by_cases hkn:k<nL
      ·have hki:(k:Int)<(nL:Int):=by omega
       have hkl:k<zL.length:=by rw[LL.out];exact hkn
       obtain⟨b1,o1,e1,c1⟩:=(R3.out.below HBl.out) k hkl;obtain⟨b2,o2,e2,c2⟩:=(S3.out.below HBl.out) k hkl;subst e1 e2;unfold VJ.val8 at c1 c2;generalize zL[k]=x at*
       have hxx:((x:Int) != (x:Int))=false:=by simp
       clear p0 q0 p1 q1;go_wp2
       go_quiet (fail)
       have HBq:Hid (Below w2.heap.size w2 (wr.drewN nq)):=jH (below_drewN HBl.out nq);clear c1 c2 p2 q2;generalize wr.drewN nq=w6 at*;go_wp2
       go_roundw
       case rel=>exact⟨k+1,by omega,by go_num,HBq.out⟩
       case measure=>simp[intOf];omega
      ·obtain rfl:k=nL:=by omega
       have hki:¬(k:Int)<(k:Int):=by omega
       go_wp2
       go_ret
       exact⟨rfl,HBw.out.trans (HBl.out.mono HBw.out.size)⟩
theorem P8.sl {w:World}{s1 s2 s3 t1 t2 t3:Value}{zT zM:List Nat}{zL:List Int}(h:P8 w s1 s2 s3 zT zM zL)(h':P8 w t1 t2 t3 zT zM zL):∃a1 c1 a2 c2 a3 c3 n1 n2 n3 b1 d1 b2 d2 b3 d3,s1= .slice a1 n1 c1∧s2= .slice a2 n2 c2∧s3= .slice a3 n3 c3∧t1= .slice b1 n1 d1∧t2= .slice b2 n2 d2∧t3= .slice b3 n3 d3:=by
 obtain⟨⟨aT,nT,cT,aM,nM,cM,aL,nL,cL,rfl,rfl,rfl,rfl,rfl,rfl, -⟩, -, -⟩:=h;obtain⟨⟨sT,mT,dT,sM,mM,dM,sL,mL,dL,rfl,rfl,rfl,rfl,rfl,rfl, -⟩, -, -⟩:=h';exact⟨_,_,_,_,_,_,_,_,_,_,_,_,_,_,_,rfl,rfl,rfl,rfl,rfl,rfl⟩
theorem PJ.sl {w:World}{s1 s2 s3 t1 t2 t3:Value}{zT zM:List Nat}{zL:List Int}(h:PJ w s1 s2 s3 zT zM zL)(h':PJ w t1 t2 t3 zT zM zL):∃a1 c1 a2 c2 a3 c3 n1 n2 n3 b1 d1 b2 d2 b3 d3,s1= .slice a1 n1 c1∧s2= .slice a2 n2 c2∧s3= .slice a3 n3 c3∧t1= .slice b1 n1 d1∧t2= .slice b2 n2 d2∧t3= .slice b3 n3 d3:=by
 obtain⟨⟨aT,nT,cT,aM,nM,cM,aL,nL,cL,rfl,rfl,rfl,rfl,rfl,rfl, -⟩, -, -⟩:=h;obtain⟨⟨sT,mT,dT,sM,mM,dM,sL,mL,dL,rfl,rfl,rfl,rfl,rfl,rfl, -⟩, -, -⟩:=h';exact⟨_,_,_,_,_,_,_,_,_,_,_,_,_,_,_,rfl,rfl,rfl,rfl,rfl,rfl⟩
theorem kRe (w:World)(s0 s1 s2 s3 s4 s5 s6 s7 s8 s9 s10 s11 t0 t1 t2 t3 t4 t5 t6 t7 t8 t9 t10 t11:Value)(C B T M:Pt)(hC:P8 w s0 s1 s2 C.top C.mid C.low)(hB:PJ w s3 s4 s5 B.top B.mid B.low)(hT:PJ w s6 s7 s8 T.top T.mid T.low)(hM:PJ w s9 s10 s11 M.top M.mid M.low)
  (hC':P8 w t0 t1 t2 C.top C.mid C.low)(hB':PJ w t3 t4 t5 B.top B.mid B.low)(hT':PJ w t6 t7 t8 T.top T.mid T.low)(hM':PJ w t9 t10 t11 M.top M.mid M.low):
  Calls Tryz.prog 13 #[.agg #[s0,s1,s2,s3,s4,s5,s6,s7,s8,s9,s10,s11],.agg #[t0,t1,t2,t3,t4,t5,t6,t7,t8,t9,t10,t11]] w fun e w'=>e= .returned (.bool true)∧Below w.heap.size w w':=by
 obtain⟨aC1,cC1,aC2,cC2,aC3,cC3,nC1,nC2,nC3,sC1,dC1,sC2,dC2,sC3,dC3,rfl,rfl,rfl,rfl,rfl,rfl⟩:=hC.sl hC';obtain⟨aB1,cB1,aB2,cB2,aB3,cB3,nB1,nB2,nB3,sB1,dB1,sB2,dB2,sB3,dB3,rfl,rfl,rfl,rfl,rfl,rfl⟩:=hB.sl hB';obtain⟨aT1,cT1,aT2,cT2,aT3,cT3,nT1,nT2,nT3,sT1,dT1,sT2,dT2,sT3,dT3,rfl,rfl,rfl,rfl,rfl,rfl⟩:=hT.sl hT';obtain⟨aM1,cM1,aM2,cM2,aM3,cM3,nM1,nM2,nM3,sM1,dM1,sM2,dM2,sM3,dM3,rfl,rfl,rfl,rfl,rfl,rfl⟩:=hM.sl hM'
 have H1:=jH (And.intro hC hC');have H2:=jH (And.intro hB hB');have H3:=jH (And.intro hT hT');have H4:=jH (And.intro hM hM')
 clear hC hC' hB hB' hT hT' hM hM';have E1:=jN w (.cells #[.slice aC1 nC1 cC1,.slice aC2 nC2 cC2,.slice aC3 nC3 cC3,.slice aB1 nB1 cB1,.slice aB2 nB2 cB2,.slice aB3 nB3 cB3,.slice aT1 nT1 cT1,.slice aT2 nT2 cT2,.slice aT3 nT3 cT3,.slice aM1 nM1 cM1,.slice aM2 nM2 cM2,.slice aM3 nM3 cM3] 50);have E2:=(Below.refl _ w).alloc jR (.cells #[.slice aC1 nC1 cC1,.slice aC2 nC2 cC2,.slice aC3 nC3 cC3,.slice aB1 nB1 cB1,.slice aB2 nB2 cB2,.slice aB3 nB3 cB3,.slice aT1 nT1 cT1,.slice aT2 nT2 cT2,.slice aT3 nT3 cT3,.slice aM1 nM1 cM1,.slice aM2 nM2 cM2,.slice aM3 nM3 cM3] 50);have E3:=World.size_alloc w (.cells #[.slice aC1 nC1 cC1,.slice aC2 nC2 cC2,.slice aC3 nC3 cC3,.slice aB1 nB1 cB1,.slice aB2 nB2 cB2,.slice aB3 nB3 cB3,.slice aT1 nT1 cT1,.slice aT2 nT2 cT2,.slice aT3 nT3 cT3,.slice aM1 nM1 cM1,.slice aM2 nM2 cM2,.slice aM3 nM3 cM3] 50)
 go_enter Tryz.func13,Tryz.ntmps13
 go_upto_region 1 with(fail)
 generalize w.alloc (.cells #[.slice aC1 nC1 cC1,.slice aC2 nC2 cC2,.slice aC3 nC3 cC3,.slice aB1 nB1 cB1,.slice aB2 nB2 cB2,.slice aB3 nB3 cB3,.slice aT1 nT1 cT1,.slice aT2 nT2 cT2,.slice aT3 nT3 cT3,.slice aM1 nM1 cM1,.slice aM2 nM2 cM2,.slice aM3 nM3 cM3] 50)=w1 at*;have F1:=jN w1 (.cells #[.slice sC1 nC1 dC1,.slice sC2 nC2 dC2,.slice sC3 nC3 dC3,.slice sB1 nB1 dB1,.slice sB2 nB2 dB2,.slice sB3 nB3 dB3,.slice sT1 nT1 dT1,.slice sT2 nT2 dT2,.slice sT3 nT3 dT3,.slice sM1 nM1 dM1,.slice sM2 nM2 dM2,.slice sM3 nM3 dM3] 50);have F2:=(Below.refl _ w1).alloc jR (.cells #[.slice sC1 nC1 dC1,.slice sC2 nC2 dC2,.slice sC3 nC3 dC3,.slice sB1 nB1 dB1,.slice sB2 nB2 dB2,.slice sB3 nB3 dB3,.slice sT1 nT1 dT1,.slice sT2 nT2 dT2,.slice sT3 nT3 dT3,.slice sM1 nM1 dM1,.slice sM2 nM2 dM2,.slice sM3 nM3 dM3] 50);generalize w1.alloc (.cells #[.slice sC1 nC1 dC1,.slice sC2 nC2 dC2,.slice sC3 nC3 dC3,.slice sB1 nB1 dB1,.slice sB2 nB2 dB2,.slice sB3 nB3 dB3,.slice sT1 nT1 dT1,.slice sT2 nT2 dT2,.slice sT3 nT3 dT3,.slice sM1 nM1 dM1,.slice sM2 nM2 dM2,.slice sM3 nM3 dM3] 50)=w2 at*
 obtain⟨b0,hb0⟩:∃b0,b0=w.heap.size:=⟨_,rfl⟩
 have HB:Hid (Below w.heap.size w w2):=jH (E2.trans (F2.mono (by omega)));rw[←hb0]at E1 E3 ⊢;rw[E3]at F1;have HA0:Hid (w2.heap[b0]? =some (.cells #[.slice aC1 nC1 cC1,.slice aC2 nC2 cC2,.slice aC3 nC3 cC3,.slice aB1 nB1 cB1,.slice aB2 nB2 cB2,.slice aB3 nB3 cB3,.slice aT1 nT1 cT1,.slice aT2 nT2 cT2,.slice aT3 nT3 cT3,.slice aM1 nM1 cM1,.slice aM2 nM2 cM2,.slice aM3 nM3 cM3] 50 (0,0))):=jH ((F2.block b0 (by omega)).trans E1);have HA1:=jH F1;clear E1 E2 E3 F1 F2 hb0;have p0:=jK w2 b0 0 _ _ (0,0) HA0.out;have q0:=jK w2 (b0+1) 0 _ _ (0,0) HA1.out;have p1:=jK w2 b0 1 _ _ (0,0) HA0.out;have q1:=jK w2 (b0+1) 1 _ _ (0,0) HA1.out;have p2:=jK w2 b0 2 _ _ (0,0) HA0.out;have q2:=jK w2 (b0+1) 2 _ _ (0,0) HA1.out;have p3:=jK w2 b0 3 _ _ (0,0) HA0.out;have q3:=jK w2 (b0+1) 3 _ _ (0,0) HA1.out;have p4:=jK w2 b0 4 _ _ (0,0) HA0.out;have q4:=jK w2 (b0+1) 4 _ _ (0,0) HA1.out;have p5:=jK w2 b0 5 _ _ (0,0) HA0.out;have q5:=jK w2 (b0+1) 5 _ _ (0,0) HA1.out;have p6:=jK w2 b0 6 _ _ (0,0) HA0.out;have q6:=jK w2 (b0+1) 6 _ _ (0,0) HA1.out;have p7:=jK w2 b0 7 _ _ (0,0) HA0.out;have q7:=jK w2 (b0+1) 7 _ _ (0,0) HA1.out;have p8:=jK w2 b0 8 _ _ (0,0) HA0.out;have q8:=jK w2 (b0+1) 8 _ _ (0,0) HA1.out;have p9:=jK w2 b0 9 _ _ (0,0) HA0.out;have q9:=jK w2 (b0+1) 9 _ _ (0,0) HA1.out;have p10:=jK w2 b0 10 _ _ (0,0) HA0.out;have q10:=jK w2 (b0+1) 10 _ _ (0,0) HA1.out;have p11:=jK w2 b0 11 _ _ (0,0) HA0.out;have q11:=jK w2 (b0+1) 11 _ _ (0,0) HA1.out;simp only[jG,jI,jJ]at p0 q0 p1 q1 p2 q2 p3 q3 p4 q4 p5 q5 p6 q6 p7 q7 p8 q8 p9 q9 p10 q10 p11 q11;have HX:=jH (kM8 w2 _ _ _ _ _ _ _ _ _ (H1.out.1.below HB.out) (H1.out.2.below HB.out))
 go_wp2_with fail
 refine HX.out.mono ?_;rintro e w3 ⟨rfl,hb⟩;have HB':=jH (HB.out.trans (hb.mono HB.out.size));have HA0':=jH ((hb.block b0 (jL HA0.out)).trans HA0.out);have HA1':=jH ((hb.block (b0+1) (jL HA1.out)).trans HA1.out);clear hb HX HB HA0 HA1 p0 q0 p1 q1 p2 q2 p3 q3 p4 q4 p5 q5 p6 q6 p7 q7 p8 q8 p9 q9 p10 q10 p11 q11;have HB:=HB';have HA0:=HA0';have HA1:=HA1';clear HB' HA0' HA1';have p0:=jK w3 b0 0 _ _ (0,0) HA0.out;have q0:=jK w3 (b0+1) 0 _ _ (0,0) HA1.out;have p1:=jK w3 b0 1 _ _ (0,0) HA0.out;have q1:=jK w3 (b0+1) 1 _ _ (0,0) HA1.out;have p2:=jK w3 b0 2 _ _ (0,0) HA0.out;have q2:=jK w3 (b0+1) 2 _ _ (0,0) HA1.out;have p3:=jK w3 b0 3 _ _ (0,0) HA0.out;have q3:=jK w3 (b0+1) 3 _ _ (0,0) HA1.out;have p4:=jK w3 b0 4 _ _ (0,0) HA0.out;have q4:=jK w3 (b0+1) 4 _ _ (0,0) HA1.out;have p5:=jK w3 b0 5 _ _ (0,0) HA0.out;have q5:=jK w3 (b0+1) 5 _ _ (0,0) HA1.out;have p6:=jK w3 b0 6 _ _ (0,0) HA0.out;have q6:=jK w3 (b0+1) 6 _ _ (0,0) HA1.out;have p7:=jK w3 b0 7 _ _ (0,0) HA0.out;have q7:=jK w3 (b0+1) 7 _ _ (0,0) HA1.out;have p8:=jK w3 b0 8 _ _ (0,0) HA0.out;have q8:=jK w3 (b0+1) 8 _ _ (0,0) HA1.out;have p9:=jK w3 b0 9 _ _ (0,0) HA0.out;have q9:=jK w3 (b0+1) 9 _ _ (0,0) HA1.out;have p10:=jK w3 b0 10 _ _ (0,0) HA0.out;have q10:=jK w3 (b0+1) 10 _ _ (0,0) HA1.out;have p11:=jK w3 b0 11 _ _ (0,0) HA0.out;have q11:=jK w3 (b0+1) 11 _ _ (0,0) HA1.out;simp only[jG,jI,jJ]at p0 q0 p1 q1 p2 q2 p3 q3 p4 q4 p5 q5 p6 q6 p7 q7 p8 q8 p9 q9 p10 q10 p11 q11;have HX:=jH (kGd w3 _ _ _ _ _ _ _ _ _ (H2.out.1.below HB.out) (H2.out.2.below HB.out))
 go_wp2_with fail
 refine HX.out.mono ?_;rintro e w4 ⟨rfl,hb⟩;have HB':=jH (HB.out.trans (hb.mono HB.out.size));have HA0':=jH ((hb.block b0 (jL HA0.out)).trans HA0.out);have HA1':=jH ((hb.block (b0+1) (jL HA1.out)).trans HA1.out);clear hb HX HB HA0 HA1 p0 q0 p1 q1 p2 q2 p3 q3 p4 q4 p5 q5 p6 q6 p7 q7 p8 q8 p9 q9 p10 q10 p11 q11;have HB:=HB';have HA0:=HA0';have HA1:=HA1';clear HB' HA0' HA1';have p0:=jK w4 b0 0 _ _ (0,0) HA0.out;have q0:=jK w4 (b0+1) 0 _ _ (0,0) HA1.out;have p1:=jK w4 b0 1 _ _ (0,0) HA0.out;have q1:=jK w4 (b0+1) 1 _ _ (0,0) HA1.out;have p2:=jK w4 b0 2 _ _ (0,0) HA0.out;have q2:=jK w4 (b0+1) 2 _ _ (0,0) HA1.out;have p3:=jK w4 b0 3 _ _ (0,0) HA0.out;have q3:=jK w4 (b0+1) 3 _ _ (0,0) HA1.out;have p4:=jK w4 b0 4 _ _ (0,0) HA0.out;have q4:=jK w4 (b0+1) 4 _ _ (0,0) HA1.out;have p5:=jK w4 b0 5 _ _ (0,0) HA0.out;have q5:=jK w4 (b0+1) 5 _ _ (0,0) HA1.out;have p6:=jK w4 b0 6 _ _ (0,0) HA0.out;have q6:=jK w4 (b0+1) 6 _ _ (0,0) HA1.out;have p7:=jK w4 b0 7 _ _ (0,0) HA0.out;have q7:=jK w4 (b0+1) 7 _ _ (0,0) HA1.out;have p8:=jK w4 b0 8 _ _ (0,0) HA0.out;have q8:=jK w4 (b0+1) 8 _ _ (0,0) HA1.out;have p9:=jK w4 b0 9 _ _ (0,0) HA0.out;have q9:=jK w4 (b0+1) 9 _ _ (0,0) HA1.out;have p10:=jK w4 b0 10 _ _ (0,0) HA0.out;have q10:=jK w4 (b0+1) 10 _ _ (0,0) HA1.out;have p11:=jK w4 b0 11 _ _ (0,0) HA0.out;have q11:=jK w4 (b0+1) 11 _ _ (0,0) HA1.out;simp only[jG,jI,jJ]at p0 q0 p1 q1 p2 q2 p3 q3 p4 q4 p5 q5 p6 q6 p7 q7 p8 q8 p9 q9 p10 q10 p11 q11;have HX:=jH (kGd w4 _ _ _ _ _ _ _ _ _ (H3.out.1.below HB.out) (H3.out.2.below HB.out))
 go_wp2_with fail
 refine HX.out.mono ?_;rintro e w5 ⟨rfl,hb⟩;have HB':=jH (HB.out.trans (hb.mono HB.out.size));have HA0':=jH ((hb.block b0 (jL HA0.out)).trans HA0.out);have HA1':=jH ((hb.block (b0+1) (jL HA1.out)).trans HA1.out);clear hb HX HB HA0 HA1 p0 q0 p1 q1 p2 q2 p3 q3 p4 q4 p5 q5 p6 q6 p7 q7 p8 q8 p9 q9 p10 q10 p11 q11;have HB:=HB';have HA0:=HA0';have HA1:=HA1';clear HB' HA0' HA1';have p0:=jK w5 b0 0 _ _ (0,0) HA0.out;have q0:=jK w5 (b0+1) 0 _ _ (0,0) HA1.out;have p1:=jK w5 b0 1 _ _ (0,0) HA0.out;have q1:=jK w5 (b0+1) 1 _ _ (0,0) HA1.out;have p2:=jK w5 b0 2 _ _ (0,0) HA0.out;have q2:=jK w5 (b0+1) 2 _ _ (0,0) HA1.out;have p3:=jK w5 b0 3 _ _ (0,0) HA0.out;have q3:=jK w5 (b0+1) 3 _ _ (0,0) HA1.out;have p4:=jK w5 b0 4 _ _ (0,0) HA0.out;have q4:=jK w5 (b0+1) 4 _ _ (0,0) HA1.out;have p5:=jK w5 b0 5 _ _ (0,0) HA0.out;have q5:=jK w5 (b0+1) 5 _ _ (0,0) HA1.out;have p6:=jK w5 b0 6 _ _ (0,0) HA0.out;have q6:=jK w5 (b0+1) 6 _ _ (0,0) HA1.out;have p7:=jK w5 b0 7 _ _ (0,0) HA0.out;have q7:=jK w5 (b0+1) 7 _ _ (0,0) HA1.out;have p8:=jK w5 b0 8 _ _ (0,0) HA0.out;have q8:=jK w5 (b0+1) 8 _ _ (0,0) HA1.out;have p9:=jK w5 b0 9 _ _ (0,0) HA0.out;have q9:=jK w5 (b0+1) 9 _ _ (0,0) HA1.out;have p10:=jK w5 b0 10 _ _ (0,0) HA0.out;have q10:=jK w5 (b0+1) 10 _ _ (0,0) HA1.out;have p11:=jK w5 b0 11 _ _ (0,0) HA0.out;have q11:=jK w5 (b0+1) 11 _ _ (0,0) HA1.out;simp only[jG,jI,jJ]at p0 q0 p1 q1 p2 q2 p3 q3 p4 q4 p5 q5 p6 q6 p7 q7 p8 q8 p9 q9 p10 q10 p11 q11;have HX:=jH (kGd w5 _ _ _ _ _ _ _ _ _ (H4.out.1.below HB.out) (H4.out.2.below HB.out))
 go_wp2_with fail
 refine HX.out.mono ?_;rintro e w6 ⟨rfl,hb⟩;have HB':=jH (HB.out.trans (hb.mono HB.out.size));have HA0':=jH ((hb.block b0 (jL HA0.out)).trans HA0.out);have HA1':=jH ((hb.block (b0+1) (jL HA1.out)).trans HA1.out);clear hb HX HB HA0 HA1 p0 q0 p1 q1 p2 q2 p3 q3 p4 q4 p5 q5 p6 q6 p7 q7 p8 q8 p9 q9 p10 q10 p11 q11;have HB:=HB';have HA0:=HA0';have HA1:=HA1';clear HB' HA0' HA1';go_wp2
 go_ret
 exact⟨rfl,HB.out⟩
end Go.Proofs.YtbmphakfgoompaaGreat
