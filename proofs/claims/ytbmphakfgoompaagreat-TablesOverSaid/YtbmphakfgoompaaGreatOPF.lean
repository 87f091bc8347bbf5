/- several texts in one: TPF -/
import Derived.Test.YtbmphakfgoompaaGreatOTA
import Derived.Test.YtbmphakfgoompaaGreatOTJ
set_option linter.unusedVariables false
set_option linter.unusedSimpArgs false
set_option maxRecDepth 100000
set_option maxHeartbeats 16000000
namespace Go.Proofs.YtbmphakfgoompaaGreat
open Go.RowKit
def kCa (w:World) (a:Option Addr) (zs:List Nat):Prop:=∀i (h:i<zs.length),∃b o,a=some ⟨b,o,none⟩∧w.cell? ⟨b,o+i,none⟩=some (kAb zs[i])
theorem kCa.below {w w':World}{a:Option Addr}{zs:List Nat}(h:kCa w a zs)(hb:Below w.heap.size w w'):kCa w' a zs:=fun i hi=>by
 obtain⟨b,o,e,hc⟩:=h i hi;exact⟨b,o,e,(hb.cell (p:=⟨b,o+i,none⟩) (World.block_lt_of_cell? w _ hc)).trans hc⟩
def RowAt (w:World) (a:Option Addr) (zs:List Int):Prop:=∀i (h:i<zs.length),∃b o,a=some ⟨b,o,none⟩∧w.cell? ⟨b,o+i,none⟩=some (val8 zs[i])
theorem RowAt.below {w w':World}{a:Option Addr}{zs:List Int}(h:RowAt w a zs)(hb:Below w.heap.size w w'):RowAt w' a zs:=fun i hi=>by
 obtain⟨b,o,e,hc⟩:=h i hi;exact⟨b,o,e,(hb.cell (p:=⟨b,o+i,none⟩) (World.block_lt_of_cell? w _ hc)).trans hc⟩
def TrieFar (ty:TypeId) (w:World) (g:Nat) (T:kAp Int) (B:Nat):Prop:=B≤g∧∃am cm al cl,w.heap[g]? =some (.cells (kEi T am cm al cl).toArray ty (0,0))∧(∀x,am=some x→B≤x.block)∧∀x,al=some x→B≤x.block
theorem TrieFar.below {ty:TypeId}{w w':World}{g:Nat}{T:kAp Int}{B:Nat}(h:TrieFar ty w g T B)(hb:Below w.heap.size w w'):TrieFar ty w' g T B:=by
 obtain⟨h0,am,cm,al,cl,h1,h2,h3⟩:=h;exact⟨h0,am,cm,al,cl,(hb.block g (jL h1)).trans h1,h2,h3⟩
theorem TrieFar.mono {ty:TypeId}{w:World}{g:Nat}{T:kAp Int}{B B':Nat}(h:TrieFar ty w g T B)(hb:B'≤B):TrieFar ty w g T B':=by
 obtain⟨h0,am,cm,al,cl,h1,h2,h3⟩:=h;exact⟨Nat.le_trans hb h0,am,cm,al,cl,h1,fun x e=>Nat.le_trans hb (h2 x e),fun x e=>Nat.le_trans hb (h3 x e)⟩
theorem mkF_congr {f g:Nat→Int}:∀k,(∀r,r<64*k→f r=g r)→mkF f k=mkF g k
 | 0,_=>rfl
 | k+1,h=>by
  rw[mkF,mkF,mkF_congr k (fun r hr=>h r (by omega))]
  congr 1
  unfold blkF
  apply List.map_congr_left
  intro i hi;exact h _ (by have:=List.mem_range.1 hi;omega)
theorem Made8.unique {f g:Nat→Int}{S S':MkS Int}(hS:Made8 f S)(hS':Made8 g S')(h:∀r,r≤1114111→f r=g r):S=S':=by
 obtain⟨K,hK,rfl⟩:=hS.eq;obtain⟨K',hK',rfl⟩:=hS'.eq
 obtain rfl:K=K':=by omega
 exact mkF_congr K (fun r hr=>h r (by omega))
end Go.Proofs.YtbmphakfgoompaaGreat
namespace Go.Proofs.YtbmphakfgoompaaGreat.VJ
open Go.RowKit
def RowAt (w:World) (a:Option Addr) (zs:List El):Prop:=∀i (h:i<zs.length),∃b o,a=some ⟨b,o,none⟩∧w.cell? ⟨b,o+i,none⟩=some (val8 zs[i])
theorem RowAt.below {w w':World}{a:Option Addr}{zs:List El}(h:RowAt w a zs)(hb:Below w.heap.size w w'):RowAt w' a zs:=fun i hi=>by
 obtain⟨b,o,e,hc⟩:=h i hi;exact⟨b,o,e,(hb.cell (p:=⟨b,o+i,none⟩) (World.block_lt_of_cell? w _ hc)).trans hc⟩
def TrieFar (ty:TypeId) (w:World) (g:Nat) (T:kAp El) (B:Nat):Prop:=B≤g∧∃am cm al cl,w.heap[g]? =some (.cells (kEi T am cm al cl).toArray ty (0,0))∧(∀x,am=some x→B≤x.block)∧∀x,al=some x→B≤x.block
theorem TrieFar.below {ty:TypeId}{w w':World}{g:Nat}{T:kAp El}{B:Nat}(h:TrieFar ty w g T B)(hb:Below w.heap.size w w'):TrieFar ty w' g T B:=by
 obtain⟨h0,am,cm,al,cl,h1,h2,h3⟩:=h;exact⟨h0,am,cm,al,cl,(hb.block g (jL h1)).trans h1,h2,h3⟩
theorem TrieFar.mono {ty:TypeId}{w:World}{g:Nat}{T:kAp El}{B B':Nat}(h:TrieFar ty w g T B)(hb:B'≤B):TrieFar ty w g T B':=by
 obtain⟨h0,am,cm,al,cl,h1,h2,h3⟩:=h;exact⟨Nat.le_trans hb h0,am,cm,al,cl,h1,fun x e=>Nat.le_trans hb (h2 x e),fun x e=>Nat.le_trans hb (h3 x e)⟩
theorem mkF_congr {f g:Nat→El}:∀k,(∀r,r<64*k→f r=g r)→mkF f k=mkF g k
 | 0,_=>rfl
 | k+1,h=>by
  rw[mkF,mkF,mkF_congr k (fun r hr=>h r (by omega))]
  congr 1
  unfold blkF
  apply List.map_congr_left
  intro i hi;exact h _ (by have:=List.mem_range.1 hi;omega)
theorem Made8.unique {f g:Nat→El}{S S':MkS El}(hS:Made8 f S)(hS':Made8 g S')(h:∀r,r≤1114111→f r=g r):S=S':=by
 obtain⟨K,hK,rfl⟩:=hS.eq;obtain⟨K',hK',rfl⟩:=hS'.eq
 obtain rfl:K=K':=by omega
 exact mkF_congr K (fun r hr=>h r (by omega))
end Go.Proofs.YtbmphakfgoompaaGreat.VJ
namespace Go.Proofs.YtbmphakfgoompaaGreat
open Go.RowKit
structure P8 (w:World) (s1 s2 s3:Value) (zT zM:List Nat) (zL:List Int):Prop where
 row:∃aT nT cT aM nM cM aL nL cL,s1= .slice aT nT cT∧s2= .slice aM nM cM∧s3= .slice aL nL cL∧zT.length=nT∧zM.length=nM∧zL.length=nL∧(nT≤cT∧cT≤maxLen)∧(nM≤cM∧cM≤maxLen)∧(nL≤cL∧cL≤maxLen)∧kCa w aT zT∧kCa w aM zM∧RowAt w aL zL
 vT:∀z∈zT,z<65536
 vM:∀z∈zM,z<65536
structure PJ (w:World) (s1 s2 s3:Value) (zT zM:List Nat) (zL:List Int):Prop where
 row:∃aT nT cT aM nM cM aL nL cL,s1= .slice aT nT cT∧s2= .slice aM nM cM∧s3= .slice aL nL cL∧zT.length=nT∧zM.length=nM∧zL.length=nL∧(nT≤cT∧cT≤maxLen)∧(nM≤cM∧cM≤maxLen)∧(nL≤cL∧cL≤maxLen)∧kCa w aT zT∧kCa w aM zM∧VJ.RowAt w aL zL
 vT:∀z∈zT,z<65536
 vM:∀z∈zM,z<65536
theorem P8.below {w w':World}{s1 s2 s3:Value}{zT zM:List Nat}{zL:List Int}(h:P8 w s1 s2 s3 zT zM zL)(hb:Below w.heap.size w w'):P8 w' s1 s2 s3 zT zM zL:=by
 obtain⟨⟨aT,nT,cT,aM,nM,cM,aL,nL,cL,h1,h2,h3,h4,h5,h6,h7,h8,h9,r1,r2,r3⟩,vT,vM⟩:=h;exact⟨⟨aT,nT,cT,aM,nM,cM,aL,nL,cL,h1,h2,h3,h4,h5,h6,h7,h8,h9,r1.below hb,r2.below hb,r3.below hb⟩,vT,vM⟩
theorem PJ.below {w w':World}{s1 s2 s3:Value}{zT zM:List Nat}{zL:List Int}(h:PJ w s1 s2 s3 zT zM zL)(hb:Below w.heap.size w w'):PJ w' s1 s2 s3 zT zM zL:=by
 obtain⟨⟨aT,nT,cT,aM,nM,cM,aL,nL,cL,h1,h2,h3,h4,h5,h6,h7,h8,h9,r1,r2,r3⟩,vT,vM⟩:=h;exact⟨⟨aT,nT,cT,aM,nM,cM,aL,nL,cL,h1,h2,h3,h4,h5,h6,h7,h8,h9,r1.below hb,r2.below hb,r3.below hb⟩,vT,vM⟩
structure Pt where
 top:List Nat
 mid:List Nat
 low:List Int
end Go.Proofs.YtbmphakfgoompaaGreat
