/- Words for memory: rows of integer cells that came in (IRow), blocks known whole (Blk), and what a make and a store do to them. No condition. -/
import Derived.Test.YtfdfgipemcbekaaGreatDoorProg
import Derived.WalkKit
import Derived.Handy
import Derived.Deep.Draws
import Derived.Lib.Hide
namespace Go.Proofs.YtfdfgipemcbekaaGreatDoor.Mm
open Go.RowKit
abbrev I (z:Int):Value:=.int .i64 z
def gI (zs:List Int) (i:Nat):Int:=zs.getD i 0
def IRow (w:World) (B:Nat) (A:Option Addr) (n k:Nat) (zs:List Int):Prop:=
  zs.length=n*k∧(0<n→∃ b off,A=some ⟨b,off,none⟩∧b<B∧∀ j,j<n*k→w.cell? ⟨b,off+j,none⟩ = some (I (gI zs j)))
section
variable {w w':World} {B B' n k:Nat} {A:Option Addr} {zs:List Int}
theorem IRow.keep (h:IRow w B A n k zs) (hk:∀ p:Addr,p.block<B→w'.cell? p=w.cell? p):IRow w' B A n k zs:=
  ⟨h.1,fun hn=>by
    obtain⟨b,off,e,hb,hc⟩:=h.2 hn
    exact⟨b,off,e,hb,fun j hj=>(hk _ hb).trans (hc j hj)⟩⟩
theorem IRow.below (h:IRow w B A n k zs) (hb:Below B w w'):IRow w' B A n k zs:=h.keep fun _ hp=>hb.cell hp
theorem IRow.more (h:IRow w B A n k zs) (hB:B≤B'):IRow w B' A n k zs:=
  ⟨h.1,fun hn=>by
    obtain⟨b,off,e,hb,hc⟩:=h.2 hn
    exact⟨b,off,e,by omega,hc⟩⟩
theorem IRow.at_ {b off:Nat} (h:IRow w B (some ⟨b,off,none⟩) n k zs) {i j:Nat} (hi:i<n) (hj:j<k):w.cell? ⟨b,off+i*k+j,none⟩ = some (I (gI zs (i*k+j))):=by
  obtain⟨b',off',e,_,hc⟩:=h.2 (by omega)
  injection e with e;injection e with e1 e2;subst e1 e2
  rw[Nat.add_assoc]
  exact hc _ (by
    have:(i+1)*k≤n*k:=Nat.mul_le_mul_right k hi
    rw[Nat.add_mul]at this;omega)
end
def Blk (w:World) (g:Nat) (t:TypeId) (cs:Array Value):Prop:=w.heap[g]? = some (.cells cs t (0,0))
section
variable {w w':World} {g:Nat} {t:TypeId} {cs:Array Value}
theorem Blk.lt (h:Blk w g t cs):g<w.heap.size:=by
  rcases Nat.lt_or_ge g w.heap.size with hlt|hge
  · exact hlt
  · unfold Blk at h;rw[Array.getElem?_eq_none hge]at h;cases h
theorem Blk.cell (h:Blk w g t cs) (i:Nat):w.cell? ⟨g,i,none⟩ = cs[i]?:=cell_of_row w g i cs t (0,0) h
theorem Blk.frozen (h:Blk w g t cs) (i:Nat):w.frozen? ⟨g,i,none⟩ = false:=by
  unfold Blk at h
  simp[World.frozen?,h]
theorem Blk.new (w:World) (t:TypeId) (cs:Array Value):Blk (w.alloc (.cells cs t)) w.heap.size t cs:=heap_alloc_new w _
theorem Blk.alloc (h:Blk w g t cs) (o:Obj):Blk (w.alloc o) g t cs:=(Below.heap_alloc w o g h.lt).trans h
theorem Blk.set_ (h:Blk w g t cs) (i:Nat) (u:Value):Blk (w.setCell ⟨g,i,none⟩ u) g t (cs.setIfInBounds i u):=by
  unfold Blk at h ⊢
  simp[World.setCell,Array.getElem?_modify,h]
theorem Blk.below {B:Nat} (h:Blk w g t cs) (hb:Below B w w') (hg:g<B):Blk w' g t cs:=(hb.block g hg).trans h
end
def fillP (zs:List Int) (p:Nat):Array Value:=(((zs.take p)++List.replicate (zs.length - p) 0).map I).toArray
theorem fillP_set (zs:List Int) (p:Nat) (h:p<zs.length):(fillP zs p).setIfInBounds p (I (gI zs p))=fillP zs (p+1):=by
  apply Array.ext_getElem?
  intro j
  rw[Array.getElem?_setIfInBounds]
  simp only[fillP,List.getElem?_toArray,List.getElem?_map,List.size_toArray,List.length_map,List.length_append,List.length_take,List.length_replicate]
  by_cases hj:p=j
  · subst hj
    rw[if_pos rfl,if_pos (by omega),List.getElem?_append_left (by simp;omega)]
    simp[h,gI,List.getD]
  · rw[if_neg hj]
    congr 1
    rcases Nat.lt_or_ge j p with hlt|hge
    · rw[List.getElem?_append_left (by simp;omega),List.getElem?_append_left (by simp;omega)]
      simp[hlt,Nat.lt_succ_of_lt hlt]
    · rw[List.getElem?_append_right (by simp;omega),List.getElem?_append_right (by simp;omega)]
      simp only[List.getElem?_replicate,List.length_take]
      have h1:min p zs.length=p:=by omega
      have h2:min (p+1) zs.length=p+1:=by omega
      rw[h1,h2]
      by_cases hz:j<zs.length
      · rw[if_pos (by omega),if_pos (by omega)]
      · rw[if_neg (by omega),if_neg (by omega)]
theorem Blk.fill {w:World} {g:Nat} {t:TypeId} {zs:List Int} {p:Nat} (h:Blk w g t (fillP zs p)) (hp:p<zs.length):Blk (w.setCell ⟨g,p,none⟩ (I (gI zs p))) g t (fillP zs (p+1)):=by
  rw[←fillP_set zs p hp]
  exact h.set_ p _
def markP (cur:Array Value) (k0:Int):Nat→Array Value
  | 0=>cur
  | p+1=>(markP cur k0 p).setIfInBounds p (I (k0+(p:Int)))
theorem Blk.mark {w:World} {g:Nat} {t:TypeId} {cur:Array Value} {k0:Int} {p:Nat} (h:Blk w g t (markP cur k0 p)) {v:Value} (hv:v=I (k0+(p:Int))):Blk (w.setCell ⟨g,p,none⟩ v) g t (markP cur k0 (p+1)):=by
  subst hv
  exact h.set_ p _
theorem grown_of_below {w w':World} (h:Below w.heap.size w w') (row:Option Nat):w.grownBy w' row:=⟨h.os,h.tape,h.output,h.size,fun k hk _=>h.block k hk⟩
theorem grown_refl (w:World) (row:Option Nat):w.grownBy w row:=⟨rfl,rfl,rfl,Nat.le_refl _,fun _ _ _=>rfl⟩
theorem grown_setCell {a w:World} {g:Nat} (h:a.grownBy w (some g)) (o:Nat) (u:Value):a.grownBy (w.setCell ⟨g,o,none⟩ u) (some g):=
  ⟨h.os,h.tape,h.output,by simpa[World.setCell] using h.size,fun i hi hne=>(Below.heap_setCell w _ u i (by
    rintro rfl
    exact hne rfl)).trans (h.block i hi hne)⟩
end Go.Proofs.YtfdfgipemcbekaaGreatDoor.Mm
