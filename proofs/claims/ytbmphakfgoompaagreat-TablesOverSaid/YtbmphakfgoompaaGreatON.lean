/- several texts in one: THJ FCJ -/
import Derived.Test.YtbmphakfgoompaaGreatOTJ
import Derived.Test.YtbmphakfgoompaaGreatOTD
import Derived.Test.YtbmphakfgoompaaGreatOL
import Derived.Test.YtbmphakfgoompaaGreatOSP
import Derived.Test.YtbmphakfgoompaaGreatOTW
set_option linter.unusedVariables false
set_option linter.unusedSimpArgs false
set_option maxRecDepth 100000
set_option maxHeartbeats 16000000
namespace Go.Proofs.YtbmphakfgoompaaGreat.VJ
open Go.RowKit
theorem kGt {P:Program}{ops:Array Oper}{w:World}{Q:Act→Prop}{rest:List Oper}{o:Oper}{a:Act}(hg:o.guard=none)(bo:BinOp)(t:TypeId)(x y:Operand)(t2:TypeId)(ho:o.op= .binOp bo t x y t2)(xv yv v:Value)(hx:a.eval x=xv)(hy:a.eval y=yv)
  (hG:(eqGuard bo t x y xv yv).run P w= .ok () w)(hr:(binOp bo t xv yv).run P w= .ok v w)(h:wpStill P ops w Q rest (a.put o.dst v)):wpStill P ops w Q (o :: rest) a:=by
 refine kFb hg ?_ h;unfold execOp;simp only[ho,hx,hy,Sem.run_bind,Sem.run_pure,Result.andThen_ok,hG,hr]
theorem kNh (l m:List El)(h:l.length=m.length):eqL (fun a b=>decide (a=b)) l m=decide (l=m):=by
 by_cases e:l=m
 ·rw[(kGg l m h).2 e];simp[e]
 ·cases e2:eqL (fun a b=>decide (a=b)) l m
  ·simp[e]
  ·exact absurd ((kGg l m h).1 e2) e
end Go.Proofs.YtbmphakfgoompaaGreat.VJ

namespace Go.Proofs.YtbmphakfgoompaaGreat.VJ
open Go.RowKit
theorem kK2 (xs ys:Array Value)(x y:Operand)(w:World):(eqGuard .eql 153 x y (.agg xs) (.agg ys)).run Tryz.prog w= .ok () w:=run_eqGuard_agg w .eql 153 x y xs ys (by kernel_rfl)
theorem kNi {P:Program}(w:World)(t:TypeId)(xs ys:Array Value)(b:Bool)(h:(Op.equal t (.agg xs) (.agg ys)).run P w= .ok b w):(binOp .eql t (.agg xs) (.agg ys)).run P w= .ok (.bool b) w:=by
 simp[binOp,h]
theorem kNj (l:List El)(hl:l.length=64)(w:World):(binOp .eql 153 (.agg (kAh val8 l).toArray) (.agg (kAh val8 l).toArray)).run Tryz.prog w= .ok (.bool true) w:=by
 have:= Tryz.k8.equal w l l hl hl;rw[kNh l l rfl]at this
 simpa using kNi w _ _ _ _ this
structure kIy (w:World) (g bt:Nat) (T:kAp El):Prop where
 tr:kAu val8 152 64 w g T
 tp:T.top.length=272
 ml:∀m∈T.mid,m.length=64
 ll:∀l∈T.low,l.length=64
 mn:T.mid.length≤1048576
 ln:T.low.length≤1048576
 ct:w.cell? ⟨bt,0,none⟩=some (.pointer (some ⟨g,0,none⟩))
theorem kIy.below {w w':World}{g bt:Nat}{T:kAp El}(h:kIy w g bt T)(hb:Below w.heap.size w w'):kIy w' g bt T:=
 ⟨h.tr.below hb jR,h.tp,h.ml,h.ll,h.mn,h.ln,(hb.cell (p:=⟨bt,0,none⟩) (World.block_lt_of_cell? w _ h.ct)).trans h.ct⟩
theorem kIy.low {w:World}{g bt:Nat}{T:kAp El}(h:kIy w g bt T):∃a c,w.cell? ⟨g,273,none⟩=some (.slice a T.low.length c)∧kAg val8 64 w a T.low:=by
 obtain⟨am,cm,al,cl,h1,h2,h3⟩:=h.tr;refine⟨al,cl,?_,h3⟩;rw[jK w g 273 _ _ (0,0) h1];simp[kEi,h.tp]
theorem kIy.mid {w:World}{g bt:Nat}{T:kAp El}(h:kIy w g bt T):∃a c,w.cell? ⟨g,272,none⟩=some (.slice a T.mid.length c)∧kAg kAb 64 w a T.mid:=by
 obtain⟨am,cm,al,cl,h1,h2,h3⟩:=h.tr;refine⟨am,cm,?_,h2⟩;rw[jK w g 272 _ _ (0,0) h1];simp[kEi,h.tp]
theorem kEx (w:World)(g bt:Nat)(T:kAp El)(h:kIy w g bt T)(no:Nat)(hno:no<T.low.length):
  Calls Tryz.prog 82 #[.int .u16 (no:Nat),.pointer (some ⟨bt,0,none⟩)] w fun e w'=>e= .returned (.bool true)∧Below w.heap.size w w':=by
 obtain⟨a,c,c1,hbl⟩:=h.low;obtain⟨b,o,rfl⟩:=hbl.some (by omega);have HR:=jH (hbl.get no hno);have hl:=h.ll _ (List.getElem_mem hno);have c0:=h.ct;have hln:=h.ln;clear h hbl;generalize T.low[no]=l at*;generalize T.low.length=nl at*
 have hs:(kAh val8 l).length=64:=by rw[kAf (sz:=1) (fun _=>rfl),hl]
 have g1:(0:Int)≤(no:Int):=by omega
 have g2:(no:Int)<(nl:Int):=by omega
 go_enter Tryz.func82,Tryz.ntmps82
 go_upto_region 1 with(fail)
 refine wp_region_still_lit (by kernel_rfl) (by kernel_rfl) ?_
 iterate 6 still_step
 refine kBc rfl 153 (.tmp 9) rfl b (o+no*64) rfl (kAh val8 l) _ (show w.drew.rangeAt b (o+no*64) (kAh val8 l)from HR.out) Tryz.underlying153 rfl (by rw[hs];kernel_rfl) ?_
 iterate 6 still_step
 refine kBc rfl 153 (.tmp 16) rfl b (o+no*64) rfl (kAh val8 l) _ (show w.drew.rangeAt b (o+no*64) (kAh val8 l)from HR.out) Tryz.underlying153 rfl (by rw[hs];kernel_rfl) ?_;refine kGt rfl .eql 153 (.tmp 10) (.tmp 17) _ rfl (.agg (kAh val8 l).toArray) (.agg (kAh val8 l).toArray) _ rfl rfl (kK2 _ _ _ _ _) (kNj l hl _) ?_
 still_step
 refine wpStill_nil ?_;go_wp2
 go_ret
 exact⟨rfl,(Below.refl _ w).drew⟩
theorem kId (w:World)(g bt b5:Nat)(T:kAp El)(h:kIy w g bt T)(no:Nat)(hno:no<T.low.length)(h5:w.cell? ⟨b5,0,none⟩=some (.func (.func 82) #[] #[.pointer (some ⟨bt,0,none⟩)])):
  Calls Tryz.prog 84 #[.int .u16 (no:Nat),.pointer (some ⟨b5,0,none⟩)] w fun e w'=>e= .returned (.bool false)∧Below w.heap.size w w':=by
 have HS:=jH (kEx w g bt T h no hno);clear h
 go_enter Tryz.func84,Tryz.ntmps84
 go_wp2_with fail
 refine HS.out.mono ?_;rintro e w1 ⟨rfl,hb⟩
 have HB:=jH hb;clear hb
 go_wp2
 go_ret
 exact⟨rfl,HB.out⟩
theorem kIc (w:World)(g bt b5:Nat)(T:kAp El)(h:kIy w g bt T)(no:Nat)(hno:no<T.mid.length)(hmid:∀m∈T.mid,∀k∈m,k<T.low.length)(h5:w.cell? ⟨b5,0,none⟩=some (.func (.func 82) #[] #[.pointer (some ⟨bt,0,none⟩)])):
  Calls Tryz.prog 83 #[.int .u16 (no:Nat),.pointer (some ⟨bt,0,none⟩),.pointer (some ⟨b5,0,none⟩)] w fun e w'=>e= .returned (.bool true)∧Below w.heap.size w w':=by
 obtain⟨a,c,c1,hbl⟩:=h.mid;obtain⟨b,o,rfl⟩:=hbl.some (by omega);have hl:=h.ml _ (List.getElem_mem hno);have HNA:Hid (kCa w (some ⟨b,o+no*64,none⟩) T.mid[no]):=jH (fun i hi=>⟨b,o+no*64,rfl,hbl.cell kBj no hno i hi⟩)
 have HCf:=jH (kEl w b (o+no*64) 64 64 T.mid[no] 84 #[.pointer (some ⟨b5,0,none⟩)] hl (by omega) HNA.out (enters_of Tryz.func84 (by kernel_rfl) rfl)
  (fun x W hx hb=>kId W g bt b5 T (h.below hb) x (hmid _ (List.getElem_mem hno) x hx) ((hb.cell (p:=⟨b5,0,none⟩) (World.block_lt_of_cell? w _ h5)).trans h5)))
 have c0:=h.ct;have hmn:=h.mn;clear h hbl hl hmid HNA;generalize T.mid.length=nm at*
 have g1:(0:Int)≤(no:Int):=by omega
 have g2:(no:Int)<(nm:Int):=by omega
 go_enter Tryz.func83,Tryz.ntmps83
 go_wp2_with fail
 refine HCf.out.mono ?_;rintro e w1 ⟨rfl,hb⟩
 have HB:=jH hb;clear hb
 go_wp2
 go_ret
 exact⟨rfl,HB.out⟩
end Go.Proofs.YtbmphakfgoompaaGreat.VJ
