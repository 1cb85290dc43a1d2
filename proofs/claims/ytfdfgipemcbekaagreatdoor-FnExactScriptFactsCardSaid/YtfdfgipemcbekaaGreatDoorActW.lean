/- impl.actParts: the word of an act and pointers to the fields that it uses. -/
import Derived.Test.YtfdfgipemcbekaaGreatDoorMem2
import Derived.Test.YtfdfgipemcbekaaGreatDoorActP
import Derived.WalkLawsBesides
namespace Go.Proofs.YtfdfgipemcbekaaGreatDoor.AcW
open Go.RowKit Mm Ac
set_option maxRecDepth 100000
theorem own_new (w:World) (cs:Array Value) (e:TypeId) (n:Nat) (h:cs.size=n) (hm:n≤maxLen):(w.alloc (.cells cs e)).ownsRow w.heap.size e 1 (.slice (some ⟨w.heap.size,0,none⟩) n n) n cs.toList:=by
  subst h
  refine⟨by simp,.inr ⟨_,_,cs,rfl,Nat.le_refl _,heap_alloc_new w _,Nat.le_refl _,hm,by simp,?_⟩⟩
  exact List.take_of_length_le (by simp)
def Ptrs (g:Nat) (l:List Nat):List Value:=l.map fun i=>.pointer (some ⟨g,i,none⟩)
def PartsRet (k g:Nat) (w:World) (e:Ending) (w':World):Prop:=
  ∃ A c,e=.returned (.tuple #[.string (word k),.slice A (idx k).length c])∧w'.ownsRow w.heap.size 213 1 (.slice A (idx k).length c) (idx k).length (Ptrs g (idx k))∧Below w.heap.size w w'
set_option maxHeartbeats 1000000 in
theorem parts_any (k:Nat) (h1:1≤k) (h2:k≤10) (g:Nat) (x1 x2 x3 x4:Int) (w:World) (hb:Blk w g 88 #[I k,I x1,I x2,I x3,I x4]) :
    Calls Tryz.prog 138 #[.pointer (some ⟨g,0,none⟩)] w (PartsRet k g w):=by
  have c0:w.cell? ⟨g,0,none⟩ = some (I k):=hb.cell 0
  clear hb
  rcases kinds k h1 h2 with rfl|rfl|rfl|rfl|rfl|rfl|rfl|rfl|rfl|rfl
  all_goals
    go_enter Tryz.func138,Tryz.ntmps138
    go_wp2
    try(go_region;go_wp2)
    go_ret2
    first
      | exact⟨_,_,rfl,own_new w _ _ _ rfl (by decide),by go_grown⟩
      | exact⟨_,_,rfl,World.ownsRow_nil _ _ _ _,by go_grown⟩
end Go.Proofs.YtfdfgipemcbekaaGreatDoor.AcW
