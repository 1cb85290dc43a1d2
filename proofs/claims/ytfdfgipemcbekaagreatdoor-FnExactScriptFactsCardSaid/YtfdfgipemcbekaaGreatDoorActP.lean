/- Plain facts on the words of acts: no program in sight. -/
import Derived.Test.YtfdfgipemcbekaaGreatDoorTxt
import Derived.Test.YtfdfgipemcbekaaGreatDoorSplit
namespace Go.Proofs.YtfdfgipemcbekaaGreatDoor.Ac
open Go Tx Sp
def word:Nat→ByteArray
  | 1=>⟨#[97,108,108,111,99]⟩
  | 2=>⟨#[102,114,101,101]⟩
  | 3=>⟨#[115,116,111,114,101]⟩
  | 4=>⟨#[116,114,105,109]⟩
  | 5=>⟨#[100,101,108,105,118,101,114]⟩
  | 6=>⟨#[99,111,108,108,101,99,116]⟩
  | 7=>⟨#[102,108,117,115,104]⟩
  | 8=>⟨#[116,105,99,107]⟩
  | 9=>⟨#[109,101,115,104]⟩
  | 10=>⟨#[115,116,101,112]⟩
  | _=>⟨#[]⟩
def idx:Nat→List Nat
  | 1=>[1,2]
  | 2=>[1,2]
  | 3=>[2,3,4]
  | 4=>[2,4]
  | 5=>[1]
  | 6=>[1]
  | 7=>[1]
  | 8=>[2]
  | 10=>[2]
  | _=>[]
theorem kinds (k:Nat) (h1:1≤k) (h2:k≤10):k=1∨k=2∨k=3∨k=4∨k=5∨k=6∨k=7∨k=8∨k=9∨k=10:=by omega
theorem idx_lt (k:Nat):∀ i∈idx k,i<5:=by
  unfold idx
  split<;>simp
theorem idx_len (k:Nat):(idx k).length≤3:=by
  unfold idx
  split<;>simp
def zsP (k:Nat) (rs:List ByteArray):Nat→List Int
  | 0=>[(k:Int),0,0,0,0]
  | i+1=>(zsP k rs i).set ((idx k).getD i 0) (valL ((rs.getD i ByteArray.empty).data.toList):Nat)
theorem zsP_len (k:Nat) (rs:List ByteArray) (i:Nat):(zsP k rs i).length=5:=by
  induction i with
  | zero=>rfl
  | succ i ih=>simp[zsP,ih]
def Fits (fs:List ByteArray) (k:Nat):Prop:=1≤k∧k≤10∧fs.head? = some (word k)∧fs.length=(idx k).length+1
def IsAct (s:ByteArray) (z:List Int):Prop:=LineOk s∧∃ k,Fits (fields s) k∧(∀ r∈(fields s).tail,Canon r.data.toList)∧z=zsP k (fields s).tail (idx k).length
theorem word_inj (i j:Nat) (hi:1≤i) (hi2:i≤10) (hj:1≤j) (hj2:j≤10) (h:word i=word j):i=j:=by
  rcases kinds i hi hi2 with rfl|rfl|rfl|rfl|rfl|rfl|rfl|rfl|rfl|rfl<;>
  rcases kinds j hj hj2 with rfl|rfl|rfl|rfl|rfl|rfl|rfl|rfl|rfl|rfl<;>first|rfl|(exfalso;revert h;decide)
theorem fits_inj {fs:List ByteArray} {i j:Nat} (hi:Fits fs i) (hj:Fits fs j):i=j:=
  word_inj i j hi.1 hi.2.1 hj.1 hj.2.1 (by have:=hi.2.2.1.symm.trans hj.2.2.1;injection this)
end Go.Proofs.YtfdfgipemcbekaaGreatDoor.Ac
