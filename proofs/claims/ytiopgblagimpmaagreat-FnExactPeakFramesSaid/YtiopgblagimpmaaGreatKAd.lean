/- Contracts of CacheOk and CacheCells, the reference's and the program's. No condition. -/
import Derived.Test.YtiopgblagimpmaaGreatKAc
import Derived.Test.YtiopgblagimpmaaGreatKAShelf
set_option linter.unusedVariables false
set_option linter.defProp false
set_option linter.unusedSimpArgs false
set_option linter.constructorNameAsVariable false
namespace Go.Proofs.YtiopgblagimpmaaGreat.Ab
open Go.RowKit
set_option maxRecDepth 20000
set_option maxHeartbeats 4000000
def good(k:Int)(s:List Int)(a:Int):Prop:=0<=a/\a<=511/\a.tmod (csz k)=0/\a∉s
instance (k:Int) (s:List Int) (a:Int):Decidable (good k s a):=by unfold good;exact inferInstance
def sU(k:Int):List Int->List Int->Option (List Int)
 | s,[]=>some s
 | s,a::l=>if good k s a then sU k (s++[a]) l else none
def fJ(k:Nat)(s l:List Int):Option (List Int):=if l.length<=8/\k<=3 then sU k s l else none
def hB:Nat->List Int->List (List Int)->Option (List Int)
 | _,s,[]=>some s
 | k,s,l::ls=>(fJ k s l).bind λa=>hB (k+1) a ls
def bz(c:aF):Bool:=decide (c.X.length=4)&&(hB 0 [] c.X).isSome
theorem rS(k:Int):∀(a s b:List Int),sU k s (a++b)=(sU k s a).bind λc=>sU k c b
 | [],s,b=>rfl
 | x::a,s,b=>by
  simp only[List.cons_append,sU];split
  ·exact rS k a _ b
  rfl
theorem pR:∀(a:List (List Int))(k:Nat)(s:List Int)(b:List (List Int)),hB k s (a++b)=(hB k s a).bind λc=>hB (k+a.length) c b
 | [],k,s,b=>rfl
 | l::a,k,s,b=>by
  simp only[List.cons_append,hB,Option.bind_assoc,List.length_cons]
  congr 1;funext c
  rw[pR a (k+1) c b,show k+1+a.length=k+(a.length+1) by omega]
variable{a:Int}{j:Nat}{l:List Int}
theorem KP{k:Int}{b s:List Int}(c:l[j]? = some a)(h:sU k b (l.take j)=some s)(d:good k s a):sU k b (l.take (j+1))=some (s++[a]):=by grind [X5,rS,sU]
variable{k:Nat}
theorem PQ{b s:List Int}(c:l[j]? = some a)(h:sU k b (l.take j)=some s)(d:¬good k s a):fJ k b l=none:=by
 unfold fJ;split
 all_goals grind [List.drop_eq_getElem_cons,List.take_append_drop,rS,sU]
theorem D8{k:Int} : ∀{l s b:List Int},sU k s l=some b->b.length=s.length+l.length
 | [],s,b,h=>by grind [sU]
 | a::l,s,b,h=>by
  simp only[sU]at h;split at h
  ·have:=D8 h;grind
  cases h
variable{i:Nat}
theorem uI{a:List (List Int)}{s:List Int}(b:a[i]? = some l)(h:hB 0 [] (a.take i)=some s):hB 0 [] (a.take (i+1))=fJ i s l:=by
 have c:=(Z2.1 b).1;rw[X5,b,Option.toList_some,pR,h];simp only[Option.bind_some,hB,O7,C2,Nat.min_eq_left (Nat.le_of_lt c)]
 grind
variable{c:aF}
theorem lP{s:List Int}(a:c.X[i]? = some l)(h:hB 0 [] (c.X.take i)=some s)(b:fJ i s l=none):bz c=false:=by
 have d:=uI a h
 grind [List.take_append_drop,pR,bz]
theorem FZ:∀{b:List (List Int)}{k:Nat}{s a:List Int},hB k s b=some a->a.length<=s.length+8*b.length
 | [],k,s,a,h=>by grind [hB]
 | l::b,k,s,a,h=>by
  simp only[hB]at h;unfold fJ at h;split at h
  ·cases c:sU k s l with
   | none=>grind
   | some d=>
    rw[c]at h;have e:=D8 c;have f:=FZ (show hB (k+1) d b=some a from h)
    grind
  cases h
def Qa(h:i<=3):csz (i:Int)≠0:=by
 obtain rfl|rfl|rfl|rfl:i=0\/i=1\/i=2\/i=3:=ω
 all_goals decide
def cR : ∀r∈l.map (rI .own),r.length=1:=by
 intro r a;obtain⟨z,-,rfl⟩:=W4.1 a;rfl
theorem oA(c:aF)(t:aF.sml c):zzA 214 false [.val (some 1) (aF.enc .S c)] .one [B (bz c)]:=by
 have G:=t.1;refine fO 60 [] Tryz.func214 rfl ?_
 repeat'(first|refine gP ?_|with_reducible refine Bf.N (λe=>?_) (λe=>?_))
 ·exact Z0 (λz=>[B z]) (by grind [bz])
 have H:c.X.length=4:=ω
 (conv=>whnf)
 refine CF (ι:=Nat × List Int) (λi=>[(1,.G .box (aF.enc .S c)),(3,.G .one (aG .own i.2)),(4,.G .one [I (i.1:Nat)])]) (λi=>i.1<=4/\hB 0 [] (c.X.take i.1)=some i.2) (λi=>4 - i.1) (0,[]) ?_ ⟨X0 _,rfl⟩ λi k=>?_
 ·exact wB
 obtain⟨i,s⟩:=i;obtain⟨k,b⟩:=k;simp only at k b |-;have g:=FZ b;rw[C2]at g;simp only[List.length_nil]at g;by_cases u:i<4
 ·obtain⟨l,d⟩ : ∃l,c.X[i]? = some l:=(ψ)
  have w:l.length<=1048576:=t.2 l ψ
  repeat'(first|refine gE ?_|with_reducible refine Bf.D (λe=>?_) (λe=>?_))
  ·exact Z0 (λz=>[B z]) (lP d b (by grind [fJ])).symm
  have E:l.length<=8:=ω
  (conv=>whnf)
  refine CF (ι:=Nat × List Int) (λj=>[(1,.G .box (aF.enc .S c)),(3,.G .one (aG .own j.2)),(4,.G .one [I (i:Nat)]),(5,.G .one [I (j.1:Nat)])]) (λj=>j.1<=l.length/\sU i s (l.take j.1)=some j.2) (λj=>l.length - j.1) (0,s) ?_ ⟨X0 _,rfl⟩ λj n=>?_
  ·exact wB
  obtain⟨j,o⟩:=j;obtain⟨n,a⟩:=n;simp only at n a |-;have h:=D8 a;rw[C2]at h;by_cases p:j<l.length
  ·obtain⟨y,q⟩ : ∃y,l[j]? = some y:=⟨_,X2 p⟩
   repeat'(first|refine gE ?_|with_reducible (first|refine Bf.D (λe=>?_) (λe=>?_)|refine Bf.N (λe=>?_) (λe=>?_))|refine C8 (aM y 0 511) ?_|refine C8 (eg (i:Nat)) ?_|refine CN (Qa ω) ?_|refine CQ rfl ?_|refine CG (n6 o y ω) ⟨⟨rfl,d9 _⟩,⟨rfl,rfl⟩,trivial⟩ ?_|refine CT cR (λr F=>by rw[V1.1 F];rfl) (by simp[bn,eP]) (by simp;omega) (by simp only[I1];exact xi (by simp;omega) (by decide)) rfl ?_)
   all_goals first
    | exact Z0 (λz=>[B z]) (lP d b (PQ q a λ⟨J,K,L,M⟩=>by first|contradiction|omega)).symm
    | ((conv=>whnf)
       refine CD (j+1,o++[y]) ⟨(by simp only;omega),KP q a ⟨ω,ω,(by assumption),(by assumption)⟩⟩ (by simp only;omega) ?_
       (repeat'(first|exact trivial|rfl|exact CJ rfl (CJ (Z0 (C.s dA.own) (by simp[rI])) trivial)|refine CJ ?_ ?_)))
  refine ZE ?_
  rw[V7 ω]at a;refine CD (i+1,o) ⟨(by simp only;omega),(by rw[uI d b];grind [fJ])⟩ (by simp only;omega) ?_;exact wB
 refine ZE ?_
 rw[V7 ω]at b;exact Z0 (λz=>[B z]) (by grind [bz])
def fX(s:List Int):List (Int × Value):=s.map λa=>(a,.bool true)
theorem oo(a:Int):∀(s:List Int),mlook (fX s) a (.bool false)=.bool (decide (a∈s))
 | []=>by simp[fX,mlook]
 | x::s=>by
  have b:=oo a s
  grind [fX,mlook]
theorem ve{a:Int} : ∀{s:List Int},a∉s->fX (s++[a])=mput (fX s) a (.bool true)
 | [],_=>rfl
 | x::s,h=>by
  simp only[List.mem_cons,not_or]at h;have b:=ve h.2
  grind [fX,mput]
theorem oe(c:aF)(p:aF.sml c):zzA 80 false [.val (some 1) (aF.enc .S c)] .one [B (bz c)]:=by
 have w:=p.1;refine fO 54 [] Tryz.func80 rfl ?_
 refine ZP ?_
 refine CF (ι:=Nat × List Int) (λi=>[(1,.G .box (aF.enc .S c)),(3,.G .one [.m (fX i.2)]),(10,.G .one (jV .S c.X)),(11,.G .one [I c.X.length]),(12,.G .one [I (i.1:Nat)])]) (λi=>i.1<=c.X.length/\hB 0 [] (c.X.take i.1)=some i.2) (λi=>c.X.length - i.1) (0,[]) ?_ ⟨X0 _,rfl⟩ λi g=>?_
 ·exact wB
 obtain⟨i,s⟩:=i;obtain⟨g,d⟩:=g;simp only at g d |-;by_cases q:i<c.X.length
 ·obtain⟨l,b⟩ : ∃l,c.X[i]? = some l:=(ψ)
  have r:l.length<=1048576:=p.2 l ψ
  repeat'(first|refine gE ?_|with_reducible refine Bf.D (λe=>?_) (λe=>?_)|refine C8 (fF (i:Nat)) ?_)
  ·exact Z0 (λz=>[B z]) (lP b d (by grind [fJ])).symm
  rotate_left
  ·exact Z0 (λz=>[B z]) (lP b d (by grind [fJ])).symm
  have t:l.length<=8:=ω
  have u:i<=3:=ω
  (conv=>whnf)
  refine CF (ι:=Nat × List Int) (λj=>[(1,.G .box (aF.enc .S c)),(3,.G .one [.m (fX j.2)]),(4,.G .one [I (i:Nat)]),(10,.G .one (jV .S c.X)),(11,.G .one [I c.X.length]),(12,.G .one [I (i:Nat)]),(25,.G .one (aG .S l)),(26,.G .one [I l.length]),(27,.G .one [I (j.1:Nat)])]) (λj=>j.1<=l.length/\sU i s (l.take j.1)=some j.2) (λj=>l.length - j.1) (0,s) ?_ ⟨X0 _,rfl⟩ λj h=>?_
  ·exact wB
  obtain⟨j,k⟩:=j;obtain⟨h,a⟩:=h;simp only at h a |-;by_cases n:j<l.length
  ·obtain⟨y,o⟩ : ∃y,l[j]? = some y:=⟨_,X2 n⟩
   repeat'(first|refine gE ?_|with_reducible (first|refine Bf.D (λe=>?_) (λe=>?_)|refine Bf.N (λe=>?_) (λe=>?_))|refine C8 (aI y 0 511) ?_|refine C8 (dl (i:Nat)) ?_|refine CN (Qa ω) ?_|refine CQ rfl ?_|refine Ml.mk (oo y k) ?_|refine Mu.mk (ve (by assumption)) ?_)
   all_goals first
    | exact Z0 (λz=>[B z]) (lP b d (PQ o a λ⟨C,E,F,G⟩=>by first|contradiction|omega)).symm
    | ((conv=>whnf)
       refine CD (j+1,k++[y]) ⟨(by simp only;omega),KP o a ⟨ω,ω,(by assumption),(by assumption)⟩⟩ (by simp only;omega) ?_
       (exact wA))
  refine ZE ?_
  rw[V7 ω]at a;refine CD (i+1,k) ⟨(by simp only;omega),(by rw[uI b d];grind [fJ])⟩ (by simp only;omega) ?_;exact wB
 refine ZE ?_
 grind [W0,bz]
theorem KH:∀{b:List (List Int)}{k:Nat}{s c:List Int},hB k s b=some c->∀l∈b,l.length<=8
 | [],k,s,c,h,l,a=>by simp at a
 | x::b,k,s,c,h,l,a=>by
  simp only[hB]at h;unfold fJ at h;split at h
  ·rename_i d
   rcases List.mem_cons.1 a with rfl|a
   ·exact d.1
   cases e:sU k s x with
   | none=>grind
   | some f=>rw[e]at h;exact KH (show hB (k+1) f b=some c from h) l a
  cases h
theorem wJ(h:bz c=true):c.X.length=4/\∀l∈c.X,l.length<=8:=by grind [Option.isSome_iff_exists,KH,bz]
theorem rK(f:aT)(h:aT.sml f):zzA 86 false [.val (some 2) (aT.enc .S f)] .one [B (cP f)]:=by
 have C:=h.1.1;have E:f.y.length<=1048576:=h.2;refine fO 61 [] Tryz.func86 rfl ?_
 repeat'(first|refine gP ?_|with_reducible (first|refine Bf.D (λa=>?_) (λa=>?_)|refine Bf.N (λa=>?_) (λa=>?_))|refine C8 (aM f.W.length 1 32) ?_)
 ·exact Z0 (λz=>[B z]) (by grind [cP])
 rotate_left
 ·exact Z0 (λz=>[B z]) (by grind [cP])
 have t:1<=f.W.length/\f.W.length<=32:=ω
 have w:f.y.length=f.W.length:=ω
 (conv=>whnf)
 refine CF (ι:=Nat) (λi=>[(1,.G .box (aT.enc .S f)),(3,.G .one [I (i:Nat)])]) (λi=>i<=f.W.length/\((f.W.zip f.y).take i).all (λq=>iV q.1 q.2)=true) (λi=>f.W.length - i) 0 ?_ ψ λi j=>?_
 ·exact wB
 obtain⟨j,y⟩:=j;by_cases g:i<f.W.length
 ·obtain⟨r,c⟩ : ∃r,f.W[i]? = some r:=⟨_,X2 g⟩
  obtain⟨u,b⟩ : ∃u,f.y[i]? = some u:=⟨_,X2 ω⟩
  repeat'(first|refine gE ?_|with_reducible refine Bf.N (λa=>?_) (λa=>?_))
  ·exact Z0 (λz=>[B z]) (iQ c b (by grind [iV])).symm
  have l:r.length=16:=ω
  (conv=>whnf)
  refine CF (ι:=Nat) (λk=>[(1,.G .box (aT.enc .S f)),(3,.G .one [I (i:Nat)]),(4,.G .one [I (k:Nat)])]) (λk=>k<=16/\(r.take k).all (j9 u)=true) (λk=>16 - k) 0 ?_ ψ λk n=>?_
  ·exact wB
  obtain⟨n,e⟩:=n;by_cases o:k<16
  ·obtain⟨v,d⟩ : ∃v,r[k]? = some v:=⟨_,X2 ω⟩
   cases u with
   | true=>
    repeat'(first|refine gE ?_|with_reducible (first|refine Bf.D (λa=>?_) (λa=>?_)|refine Bf.N (λa=>?_) (λa=>?_))|refine C8 (aM v 0 999) ?_)
    all_goals first
     | exact Z0 (λz=>[B z]) (iQ c b (ur d (by first|(unfold j9;rw[W0 ω];rfl)|(unfold j9;rw[W0 (p:=v=0) ω];simp)))).symm
     | ((conv=>whnf)
        refine CD (ι:=Nat) (k+1) ⟨ω,cX d e (by unfold j9;first|(rw[O0 ω];rfl)|(rw[O0 (p:=0<=v/\v<=999) ω,O0 (p:=v=0) ω];rfl))⟩ ω ?_
        (exact wA))
   | false=>
    repeat'(first|refine gE ?_|with_reducible (first|refine Bf.D (λa=>?_) (λa=>?_)|refine Bf.N (λa=>?_) (λa=>?_))|refine C8 (aM v 0 999) ?_)
    all_goals first
     | exact Z0 (λz=>[B z]) (iQ c b (ur d (by first|(unfold j9;rw[W0 ω];rfl)|(unfold j9;rw[W0 (p:=v=0) ω];simp)))).symm
     | ((conv=>whnf)
        refine CD (ι:=Nat) (k+1) ⟨ω,cX d e (by unfold j9;first|(rw[O0 ω];rfl)|(rw[O0 (p:=0<=v/\v<=999) ω,O0 (p:=v=0) ω];rfl))⟩ ω ?_
        (exact wA))
  refine ZE ?_
  refine CD (i+1) ⟨ω,cX (x5 c b) y (by grind [iV])⟩ ω ?_;exact wB
 refine ZE ?_
 exact Z0 (λz=>[B z]) (by grind [List.length_zip,cP])
theorem mR(f:aT)(g:aT.sml f):zzA 242 false [.val (some 2) (aT.enc .S f)] .one [B (cP f)]:=by
 have C:=g.1.1;have E:f.y.length<=1048576:=g.2;refine fO 55 [] Tryz.func242 rfl ?_
 repeat'(first|refine gP ?_|with_reducible (first|refine Bf.D (λa=>?_) (λa=>?_)|refine Bf.N (λa=>?_) (λa=>?_))|refine C8 (aI f.W.length 1 32) ?_)
 ·exact Z0 (λz=>[B z]) (by grind [cP])
 rotate_left
 ·exact Z0 (λz=>[B z]) (by grind [cP])
 have p:1<=f.W.length/\f.W.length<=32:=ω
 have t:f.y.length=f.W.length:=ω
 (conv=>whnf)
 refine CF (ι:=Nat) (λi=>[(1,.G .box (aT.enc .S f)),(22,.G .one (jV .S f.W)),(23,.G .one [I (f.W.length)]),(24,.G .one [I ((i:Nat):Int)])]) (λi=>i<=f.W.length/\((f.W.zip f.y).take i).all (λq=>iV q.1 q.2)=true) (λi=>f.W.length - i) (0) ?_ ψ λi j=>?_
 ·exact wB
 obtain⟨j,w⟩:=j;by_cases h:i<f.W.length
 ·obtain⟨r,c⟩ : ∃r,f.W[i]? = some r:=⟨_,X2 h⟩
  obtain⟨u,b⟩ : ∃u,f.y[i]? = some u:=⟨_,X2 ω⟩
  have y:r.length<=1048576:=g.1.2 r ψ
  repeat'(first|refine gE ?_|with_reducible refine Bf.N (λa=>?_) (λa=>?_))
  ·exact Z0 (λz=>[B z]) (iQ c b (by grind [iV])).symm
  have l:r.length=16:=ω
  (conv=>whnf)
  refine CF (ι:=Nat) (λk=>[(1,.G .box (aT.enc .S f)),(3,.G .one [I ((i:Nat):Int)]),(22,.G .one (jV .S f.W)),(23,.G .one [I (f.W.length)]),(24,.G .one [I ((i:Nat):Int)]),(32,.G .one (aG .S r)),(33,.G .one [I (r.length)]),(34,.G .one [I ((k:Nat):Int)])]) (λk=>k<=r.length/\(r.take k).all (j9 u)=true) (λk=>r.length - k) (0) ?_ ψ λk n=>?_
  ·exact wB
  obtain⟨n,e⟩:=n;by_cases o:k<r.length
  ·obtain⟨v,d⟩ : ∃v,r[k]? = some v:=⟨_,X2 ω⟩
   cases u with
   | true=>
    repeat'(first|refine gE ?_|with_reducible (first|refine Bf.D (λa=>?_) (λa=>?_)|refine Bf.N (λa=>?_) (λa=>?_))|refine C8 (aI v 0 999) ?_)
    all_goals first
     | exact Z0 (λz=>[B z]) (iQ c b (ur d (by unfold j9;grind))).symm
     | ((conv=>whnf)
        refine CD (ι:=Nat) (k+1) ⟨ω,cX d e (by unfold j9;grind)⟩ ω ?_
        (exact wA))
   | false=>
    repeat'(first|refine gE ?_|with_reducible (first|refine Bf.D (λa=>?_) (λa=>?_)|refine Bf.N (λa=>?_) (λa=>?_))|refine C8 (aI v 0 999) ?_)
    all_goals first
     | exact Z0 (λz=>[B z]) (iQ c b (ur d (by unfold j9;grind))).symm
     | ((conv=>whnf)
        refine CD (ι:=Nat) (k+1) ⟨ω,cX d e (by unfold j9;grind)⟩ ω ?_
        (exact wA))
  refine ZE ?_
  refine CD (i+1) ⟨ω,cX (x5 c b) w (by grind [iV])⟩ ω ?_;exact wB
 refine ZE ?_
 exact Z0 (λz=>[B z]) (by grind [List.length_zip,cP])
theorem Fi(t:aO)(b:Int)(e:aO.sml t):zzA 469 false [.val (some 1) (aO.enc .S t),.val none [I b]] .one [B (gu t b)]:=by
 have k:=e.1;refine fO 54 [] Tryz.func469 rfl ?_
 refine ZP ?_
 refine CF (ι:=Nat) (λi=>[(1,.G .one [I (b)]),(2,.G .box (aO.enc .S t)),(5,.G .one [I ((i:Nat):Int)])]) (λi=>i<=t.O.length/\df i (λj=>mt b (nth t.O j))=true) (λi=>t.O.length - i) 0 ?_ ⟨X0 _,rfl⟩ λi c=>?_
 ·exact wB
 obtain⟨c,g⟩:=c;by_cases d:i<t.O.length
 ·have h:=ar d
  repeat'(first|refine gE ?_|with_reducible (first|refine Bf.D (λa=>?_) (λa=>?_)|refine Bf.N (λa=>?_) (λa=>?_)|refine Bf.E (λa=>?_) (λa=>?_))|refine C8 (aM _ 0 2) ?_)
  all_goals first
   | exact Z0 (λz=>[B z]) ((by symm;unfold gu;rw[cB d (W0 ψ)];rfl))
   | ((conv=>whnf);refine CD (i+1) ⟨ω,bV g (O0 ψ)⟩ ω ?_;(exact wB))
 repeat'(first|refine gE ?_|refine C8 (aM _ 1 32) ?_)
 obtain rfl:i=t.O.length:=ω
 exact Z0 (λz=>[B z]) ((by grind [gu]))
theorem Ed(t:aO)(b:Int)(e:aO.sml t):zzA 243 false [.val (some 1) (aO.enc .S t),.val none [I b]] .one [B (gu t b)]:=by
 have k:=e.1;refine fO 49 [] Tryz.func243 rfl ?_
 refine ZP ?_
 refine CF (ι:=Nat) (λi=>[(1,.G .one [I (b)]),(2,.G .box (aO.enc .S t)),(8,.G .one (Gj .S t.O)),(9,.G .one [I (t.O.length)]),(10,.G .one [I ((i:Nat):Int)])]) (λi=>i<=t.O.length/\df i (λj=>mt b (nth t.O j))=true) (λi=>t.O.length - i) 0 ?_ ⟨X0 _,rfl⟩ λi c=>?_
 ·exact wB
 obtain⟨c,g⟩:=c;by_cases d:i<t.O.length
 ·have h:=ar d
  repeat'(first|refine gE ?_|with_reducible (first|refine Bf.D (λa=>?_) (λa=>?_)|refine Bf.N (λa=>?_) (λa=>?_)|refine Bf.E (λa=>?_) (λa=>?_))|refine C8 (aI _ 0 2) ?_)
  all_goals first
   | exact Z0 (λz=>[B z]) ((by symm;unfold gu;rw[cB d (W0 ψ)];rfl))
   | ((conv=>whnf);refine CD (i+1) ⟨ω,bV g (O0 ψ)⟩ ω ?_;(exact wB))
 repeat'(first|refine gE ?_|refine C8 (aI _ 1 32) ?_)
 obtain rfl:i=t.O.length:=ω
 exact Z0 (λz=>[B z]) ((by grind [gu]))
theorem gW(t:aO)(f:Int)(c:aO.sml t):zzA 470 false [.val (some 1) (aO.enc .S t),.val none [I f]] .one (aG .own (pagesOn t f)):=by
 have j:=c.1;refine fO 37 [] Tryz.func470 rfl ?_ (.inr (bO _))
 refine ZP ?_
 refine CF (ι:=Nat) (λi=>[(1,.G .one [I (f)]),(2,.G .box (aO.enc .S t)),(5,.G .one (aG .own (k4 t f i))),(6,.G .one [I ((i:Nat):Int)])]) (λi=>i<=t.O.length) (λi=>t.O.length - i) (0) ?_ (X0 _) λi k=>?_
 ·exact wB
 have d:=uW t f i;by_cases e:i<t.O.length
 ·have g:=ar e
  repeat'(first|refine gE ?_|with_reducible (first|refine Bf.D (λb=>?_) (λb=>?_)|refine Bf.N (λb=>?_) (λb=>?_)|refine Bf.E (λb=>?_) (λb=>?_))|refine CT cR (λr h=>by rw[V1.1 h];rfl) (by simp[bn,eP]) (by simp;omega) (by simp only[I1];exact xi (by simp;omega) (by decide)) rfl ?_)
  all_goals first
   |(have a:Na t f i=true:=O0 ψ
     (conv=>whnf)
     refine CD (i+1) ω ω ?_;rw[BA a]
     (repeat'(first|exact trivial|rfl|exact CJ rfl (CJ (Z0 (C.s dA.own) (by simp[rI])) trivial)|refine CJ ?_ ?_)))
   |(have a:Na t f i=false:=W0 ψ
     (conv=>whnf)
     refine CD (i+1) ω ω ?_;rw[FX a]
     (exact wA))
 refine ZE ?_
 obtain rfl:i=t.O.length:=ω
 rfl
theorem lB(t:aO)(f:Int)(c:aO.sml t):zzA 244 false [.val (some 1) (aO.enc .S t),.val none [I f]] .one (aG .own (pagesOn t f)):=by
 have j:=c.1;refine fO 32 [] Tryz.func244 rfl ?_ (.inr (bO _))
 refine ZP ?_
 refine CF (ι:=Nat) (λi=>[(1,.G .one [I (f)]),(5,.G .one (aG .own (k4 t f i))),(10,.G .one (Gj .S t.O)),(11,.G .one [I (t.O.length)]),(12,.G .one [I ((i:Nat):Int)])]) (λi=>i<=t.O.length) (λi=>t.O.length - i) (0) ?_ (X0 _) λi k=>?_
 ·exact wB
 have d:=uW t f i;by_cases e:i<t.O.length
 ·have g:=ar e
  repeat'(first|refine gE ?_|with_reducible (first|refine Bf.D (λb=>?_) (λb=>?_)|refine Bf.N (λb=>?_) (λb=>?_)|refine Bf.E (λb=>?_) (λb=>?_))|refine CT cR (λr h=>by rw[V1.1 h];rfl) (by simp[bn,eP]) (by simp;omega) (by simp only[I1];exact xi (by simp;omega) (by decide)) rfl ?_)
  all_goals first
   |(have a:Na t f i=true:=O0 ψ
     (conv=>whnf)
     refine CD (i+1) ω ω ?_;rw[BA a]
     (repeat'(first|exact trivial|rfl|exact CJ rfl (CJ (Z0 (C.s dA.own) (by simp[rI])) trivial)|refine CJ ?_ ?_)))
   |(have a:Na t f i=false:=W0 ψ
     (conv=>whnf)
     refine CD (i+1) ω ω ?_;rw[FX a]
     (exact wA))
 refine ZE ?_
 obtain rfl:i=t.O.length:=ω
 rfl
def dh(t:aO)(p:Int)(b:aO.sml t):zzA 34 false [.val (some 1) (aO.enc .S t),.val none [I p]] .agg (bo.enc .own (ax t p)):=by
 have d:=b.1;refine fO 18 [] Tryz.func34 rfl ?_ (.inr (bo.enc_fr _));by_cases a:0<=p/\p<t.O.length
 ·have c:=ar (xs:=t.O) (i:=p.toNat) ω
  repeat'(first|refine gE ?_|refine C8 (aM _ 0 _) ?_|refine CK a.1 (aa c) ?_)
  all_goals(unfold ax;rw[CC a];rfl)
 repeat'(first|refine gE ?_|refine C8 (aM _ 0 _) ?_)
 all_goals(unfold ax;rw[CB a];rfl)
def cN(t:aO)(p:Int)(b:aO.sml t):zzA 104 false [.val (some 1) (aO.enc .S t),.val none [I p]] .agg (bo.enc .own (ax t p)):=by
 have d:=b.1;refine fO 18 [] Tryz.func104 rfl ?_ (.inr (bo.enc_fr _));by_cases a:0<=p/\p<t.O.length
 ·have c:=ar (xs:=t.O) (i:=p.toNat) ω
  repeat'(first|refine gE ?_|refine C8 (aI _ 0 _) ?_|refine CK a.1 (aa c) ?_)
  all_goals(unfold ax;rw[CC a];rfl)
 repeat'(first|refine gE ?_|refine C8 (aI _ 0 _) ?_)
 all_goals(unfold ax;rw[CB a];rfl)
def su(t:aO)(f:Int):(pagesOn t f).length<=t.O.length:=uW ..
theorem qg(m:aP)(a:aP.sml m):zzA 350 false [.val (some 3) (aP.enc .S m)] .one [B (cV m)]:=by
 have q:m.V.y.length<=1048576:=a.1.2;have k:m.V.W.length<=1048576:=a.1.1.1;have b:=rK m.V a.1;have c:=Fi m.Q m.V.W.length a.2;cases d:cP m.V with
 | false=>
  rw[d]at b;refine fO 39 [(6,13,[26,27,28,29,30,31,32,33,34,35,36,37,38])] Tryz.func350 rfl ?_
  refine ZP ?_
  exact Z0 (λz=>[B z]) ((by grind [cV]))
 | true=>
  have g:=EG d;rw[d]at b;cases e:gu m.Q m.V.y.length with
  | false=>
   rw[show(m.V.W.length:Int)=m.V.y.length by omega,e]at c;refine fO 39 [(6,13,[26,27,28,29,30,31,32,33,34,35,36,37,38])] Tryz.func350 rfl ?_
   repeat'(first|refine gP ?_|refine C8 ((show(m.V.W.length:Int)=m.V.y.length by omega) ▸ c) ?_)
   exact Z0 (λz=>[B z]) ((by grind [cV]))
  | true=>
   rw[show(m.V.W.length:Int)=m.V.y.length by omega,e]at c;refine fO 39 [(6,13,[26,27,28,29,30,31,32,33,34,35,36,37,38])] Tryz.func350 rfl ?_
   repeat'(first|refine gP ?_|refine C8 ((show(m.V.W.length:Int)=m.V.y.length by omega) ▸ c) ?_)
   refine CF (ι:=Nat) (λi=>[(1,.G .box (aP.enc .S m)),(3,.G .one [I ((i:Nat):Int)])]) (λi=>i<=m.V.y.length/\df i (pQ m)=true) (λi=>m.V.y.length - i) 0 ?_ ⟨X0 _,rfl⟩ λi h=>?_
   ·exact wB
   obtain⟨h,l⟩:=h;by_cases j:i<m.V.y.length
   ·have n:=ar j
    have o:=su m.Q (i:Nat)
    repeat'(first|refine gE ?_|with_reducible refine Bf.NB (λp=>?_) (λp=>?_)|refine C8 (gW m.Q (i:Nat) a.2) ?_)
    all_goals first
     | exact Z0 (λz=>[B z]) ((by symm;unfold cV;rw[d,e,cB j (by unfold pQ;grind)];rfl))
     | ((conv=>whnf);refine CD (i+1) ⟨ω,bV l (by unfold pQ;grind)⟩ ω ?_;(exact wB))
   refine ZE ?_
   obtain rfl:i=m.V.y.length:=ω
   exact Z0 (λz=>[B z]) ((by grind [cV]))
theorem qx(m:aP)(b:aP.sml m):zzA 87 false [.val (some 3) (aP.enc .S m)] .one [B (cV m)]:=by
 have o:m.V.y.length<=1048576:=b.1.2;have a:=mR m.V b.1;have c:=Ed m.Q m.V.y.length b.2;cases d:cP m.V with
 | false=>
  rw[d]at a;refine fO 37 [] Tryz.func87 rfl ?_
  refine ZP ?_
  exact Z0 (λz=>[B z]) ((by grind [cV]))
 | true=>
  rw[d]at a;cases e:gu m.Q m.V.y.length with
  | false=>
   rw[e]at c;refine fO 37 [] Tryz.func87 rfl ?_
   refine ZP ?_
   exact Z0 (λz=>[B z]) ((by grind [cV]))
  | true=>
   rw[e]at c;refine fO 37 [] Tryz.func87 rfl ?_
   refine ZP ?_
   refine CF (ι:=Nat) (λi=>[(1,.G .box (aP.enc .S m)),(21,.G .one (vN .S m.V.y)),(22,.G .one [I (m.V.y.length)]),(23,.G .one [I ((i:Nat):Int)])]) (λi=>i<=m.V.y.length/\df i (pQ m)=true) (λi=>m.V.y.length - i) 0 ?_ ⟨X0 _,rfl⟩ λi g=>?_
   ·exact wB
   obtain⟨g,j⟩:=g;by_cases h:i<m.V.y.length
   ·have k:=ar h
    have l:=su m.Q (i:Nat)
    repeat'(first|refine gE ?_|with_reducible refine Bf.NB (λn=>?_) (λn=>?_)|refine C8 (lB m.Q (i:Nat) b.2) ?_)
    all_goals first
     | exact Z0 (λz=>[B z]) ((by symm;unfold cV;rw[d,e,cB h (by unfold pQ;grind)];rfl))
     | ((conv=>whnf);refine CD (i+1) ⟨ω,bV j (by unfold pQ;grind)⟩ ω ?_;(exact wB))
   refine ZE ?_
   obtain rfl:i=m.V.y.length:=ω
   exact Z0 (λz=>[B z]) ((by grind [cV]))
def kb(k:ah)(d:ah.sml k):zzA 208 false [.val (some 5) (ah.enc .S k)] .one [B (aJ k)]:=by
 have n:k.d.length<=1048576:=d.2;have a:=qg k.F d.1;refine fO 31 [] Tryz.func208 rfl ?_
 refine ZP ?_
 refine CF (ι:=Nat) (λi=>[(1,.G .box (ah.enc .S k)),(3,.G .one [I ((i:Nat):Int)])]) (λi=>i<=k.d.length/\df i (λj=>decide (0<=nth k.d j))=true) (λi=>k.d.length - i) 0 ?_ ⟨X0 _,rfl⟩ λi e=>?_
 ·exact wB
 obtain⟨e,g⟩:=e;by_cases h:i<k.d.length
 ·have l:=ar h
  repeat'(first|refine gE ?_|with_reducible refine Bf.D (λc=>?_) (λc=>?_))
  all_goals first
   | exact Z0 (λz=>[B z]) ((by symm;unfold aJ;rw[cB h (W0 ω)];rfl))
   | ((conv=>whnf);refine CD (i+1) ⟨ω,bV g (O0 ω)⟩ ω ?_;(exact wB))
 obtain rfl:i=k.d.length:=ω
 cases b:cV k.F with
 | false=>
  rw[b]at a
  refine ZE ?_
  all_goals exact Z0 (λz=>[B z]) ((by unfold aJ;rw[b];simp))
 | true=>
  rw[b]at a
  repeat'(first|refine gE ?_|with_reducible refine Bf.D (λc=>?_) (λc=>?_)|refine C8 (aM _ 0 100000) ?_)
  all_goals exact Z0 (λz=>[B z]) ((by unfold aJ;rw[b,g];simp only[Bool.true_and];first|exact decide_eq_decide.2 ω|(symm;exact W0 ω)|(symm;exact O0 ω)))
def jY(k:ah)(b:ah.sml k):zzA 26 false [.val (some 5) (ah.enc .S k)] .one [B (aJ k)]:=by
 have l:k.d.length<=1048576:=b.2;have g:=qx k.F b.1;refine fO 29 [] Tryz.func26 rfl ?_
 refine ZP ?_
 refine CF (ι:=Nat) (λi=>[(1,.G .box (ah.enc .S k)),(6,.G .one (aG .S k.d)),(7,.G .one [I (k.d.length)]),(8,.G .one [I ((i:Nat):Int)])]) (λi=>i<=k.d.length/\df i (λj=>decide (0<=nth k.d j))=true) (λi=>k.d.length - i) 0 ?_ ⟨X0 _,rfl⟩ λi c=>?_
 ·exact wB
 obtain⟨c,d⟩:=c;by_cases e:i<k.d.length
 ·have h:=ar e
  repeat'(first|refine gE ?_|with_reducible refine Bf.D (λa=>?_) (λa=>?_))
  all_goals first
   | exact Z0 (λz=>[B z]) ((by symm;unfold aJ;rw[cB e (W0 ω)];rfl))
   | ((conv=>whnf);refine CD (i+1) ⟨ω,bV d (O0 ω)⟩ ω ?_;(exact wB))
 obtain rfl:i=k.d.length:=ω
 repeat'(first|refine gE ?_|with_reducible refine Bf.D (λa=>?_) (λa=>?_)|refine C8 (aI _ 0 100000) ?_)
 all_goals exact Z0 (λz=>[B z]) ((by unfold aJ;rw[d];cases cV k.F<;>simp only[Bool.true_and,Bool.false_and]<;>first|rfl|exact decide_eq_decide.2 ω|(symm;exact W0 ω)|(symm;exact O0 ω)))
def zk(pages:Int)(r:aE)(b:0<=pages/\pages<=1048576):zzA 351 false [.val none [I pages],.val (some 2) (aE.enc .S r)] .one [B (rangeIn pages r)]:=by
 refine fO 18 [] Tryz.func351 rfl ?_
 repeat'(first|refine gP ?_|with_reducible refine Bf.D (λa=>?_) (λa=>?_)|refine C8 (aM _ 1 _) ?_|refine C8 (aM _ 0 _) ?_)
 all_goals exact Z0 (λz=>[B z]) ((by unfold rangeIn;first|(symm;exact W0 ω)|exact decide_eq_decide.2 ω))
def xA(pages:Int)(r:aE)(b:0<=pages/\pages<=1048576):zzA 223 false [.val none [I pages],.val (some 2) (aE.enc .S r)] .one [B (rangeIn pages r)]:=by
 refine fO 18 [] Tryz.func223 rfl ?_
 repeat'(first|refine gP ?_|with_reducible refine Bf.D (λa=>?_) (λa=>?_)|refine C8 (aI _ 1 _) ?_|refine C8 (aI _ 0 _) ?_)
 all_goals exact Z0 (λz=>[B z]) ((by unfold rangeIn;first|(symm;exact W0 ω)|exact decide_eq_decide.2 ω))
theorem oM(k:Int):zzA 472 false [.val none [I k]] .one [I (slots k)]:=by
 by_cases b:0<=k/\k<=3
 ·obtain rfl|rfl|rfl|rfl:k=0\/k=1\/k=2\/k=3:=ω
  all_goals
   refine fO 9 [] Tryz.func472 rfl ?_
   repeat'(first|refine gE ?_|with_reducible refine Bf.D (λa=>?_) (λa=>?_)|refine C8 (aM _ 0 3) ?_|refine CN (by decide) ?_|refine CL rfl ?_|refine CQ rfl ?_)
   exact Z0 (λz=>[I z]) (by decide)
 refine fO 9 [] Tryz.func472 rfl ?_
 repeat'(first|refine gE ?_|with_reducible refine Bf.D (λa=>?_) (λa=>?_)|refine C8 (aM _ 0 3) ?_)
 exact Z0 (λz=>[I z]) (by grind [slots])
theorem ge(k:Int):zzA 335 false [.val none [I k]] .one [I (slots k)]:=by
 by_cases b:0<=k/\k<=3
 ·obtain rfl|rfl|rfl|rfl:k=0\/k=1\/k=2\/k=3:=ω
  all_goals
   refine fO 9 [] Tryz.func335 rfl ?_
   repeat'(first|refine gE ?_|with_reducible refine Bf.D (λa=>?_) (λa=>?_)|refine C8 (fF _) ?_|refine C8 (dl _) ?_|refine CN (by decide) ?_|refine CL rfl ?_|refine CQ rfl ?_)
   exact Z0 (λz=>[I z]) (by decide)
 refine fO 9 [] Tryz.func335 rfl ?_
 repeat'(first|refine gE ?_|with_reducible refine Bf.D (λa=>?_) (λa=>?_)|refine C8 (fF _) ?_)
 exact Z0 (λz=>[I z]) (by grind [slots])
def My(k b:Int):Bool:=decide (0<=k/\k<=3/\0<=b/\b<=lim k)
theorem rz(k b:Int):zzA 471 false [.val none [I (slots k)],.val none [I b]] .one [B (My k b)]:=by
 by_cases d:0<=k/\k<=3
 ·obtain rfl|rfl|rfl|rfl:k=0\/k=1\/k=2\/k=3:=ω
  all_goals
   first|rw[show slots 0=16 from rfl]|rw[show slots 1=8 from rfl]|rw[show slots 2=4 from rfl]|rw[show slots 3=2 from rfl]
   refine fO 15 [] Tryz.func471 rfl ?_
   repeat'(first|refine gE ?_|with_reducible refine Bf.D (λa=>?_) (λa=>?_)|refine C8 (aM _ 1 16) ?_|refine C8 (aM _ 0 _) ?_|refine CN (by decide) ?_|refine CL (show _=(65536:Int) by decide) ?_|refine CL (show _=(65535:Int) by decide) ?_|refine CL (show _=(256:Int) by decide) ?_|refine CL (show _=(255:Int) by decide) ?_|refine CL (show _=(16:Int) by decide) ?_|refine CL (show _=(15:Int) by decide) ?_|refine CL (show _=(4:Int) by decide) ?_|refine CL (show _=(8:Int) by decide) ?_|refine CL (show _=(2:Int) by decide) ?_|refine CL (show _=(3:Int) by decide) ?_)
   all_goals exact Z0 (λz=>[B z]) ((decide_eq_decide.2 (by simp[lim])))
 have c:slots k=0:=by grind [slots]
 rw[c];refine fO 15 [] Tryz.func471 rfl ?_
 repeat'(first|refine gE ?_|with_reducible refine Bf.D (λa=>?_) (λa=>?_)|refine C8 (aM _ 1 16) ?_)
 exact Z0 (λz=>[B z]) ((by symm;exact W0 ω))
theorem r6(k b:Int):zzA 375 false [.val none [I (slots k)],.val none [I b]] .one [B (My k b)]:=by
 by_cases d:0<=k/\k<=3
 ·obtain rfl|rfl|rfl|rfl:k=0\/k=1\/k=2\/k=3:=ω
  all_goals
   first|rw[show slots 0=16 from rfl]|rw[show slots 1=8 from rfl]|rw[show slots 2=4 from rfl]|rw[show slots 3=2 from rfl]
   refine fO 14 [] Tryz.func375 rfl ?_
   repeat'(first|refine gE ?_|with_reducible refine Bf.D (λa=>?_) (λa=>?_)|refine C8 (aI _ 1 16) ?_|refine C8 (aI _ 0 _) ?_|refine CN (by decide) ?_|refine CL (fW (by decide) (by decide)) ?_)
   all_goals exact Z0 (λz=>[B z]) ((decide_eq_decide.2 (by simp[lim,IntKind.bits])))
 have c:slots k=0:=by grind [slots]
 rw[c];refine fO 14 [] Tryz.func375 rfl ?_
 repeat'(first|refine gE ?_|with_reducible refine Bf.D (λa=>?_) (λa=>?_)|refine C8 (aI _ 1 16) ?_)
 exact Z0 (λz=>[B z]) ((by symm;exact W0 ω))
def gS(s:aA):zzA 352 false [.val (some 3) (aA.enc .S s)] .one [B (bk s)]:=by
 refine fO 14 [(1,12,[3,4,5,6,7,8,9,10,11,12,13,2])] Tryz.func352 rfl ?_
 repeat'(first|refine gP ?_|with_reducible refine Bf.D (λa=>?_) (λa=>?_)|refine C8 (aM _ 0 31) ?_|refine C8 (oM _) ?_|refine C8 (rz _ _) ?_)
 all_goals exact Z0 (λz=>[B z]) ((by unfold bk;first|(symm;exact W0 ω)|exact decide_eq_decide.2 ω))
def g9(s:aA):zzA 225 false [.val (some 3) (aA.enc .S s)] .one [B (bk s)]:=by
 refine fO 19 [(1,17,[3,4,5,6,7,8,9,10,11,12,13,14,15,16,17,18,2])] Tryz.func225 rfl ?_
 repeat'(first|refine gP ?_|with_reducible refine Bf.D (λa=>?_) (λa=>?_)|refine C8 (aI _ 0 31) ?_|refine C8 (fF _) ?_|refine C8 (ge _) ?_|refine C8 (r6 _ _) ?_)
 all_goals exact Z0 (λz=>[B z]) ((by unfold bk;first|(symm;exact W0 ω)|exact decide_eq_decide.2 ω))
section
variable{α:Type}{xs:List α}{p:α->Bool}{i:Nat}{y:α}
theorem DV(h:xs[i]? = some y)(a:p y=true):xs.any p=true:=z4.2 ψ
theorem xM(h:xs[i]? = some y)(a:(xs.take i).any p=false)(b:p y=false):(xs.take (i+1)).any p=false:=by grind [X5]
theorem Ut(a:xs.length<=i)(b:(xs.take i).any p=false):xs.any p=false:=by grind [V7]
theorem gx[Inhabited α](a:0<i)(b:i<xs.length):xs[((i:Int) - 1).toNat]? = some (nth xs (i - 1)):=by
 rw[show((i:Int) - 1).toNat=i - 1 by omega];grind [ar]
end
variable{n:Nat}
theorem Ad{pages:Int}{xs:List aE}(a:df n (gv pages xs)=true)(b:i<n):1<=(nth xs i).a4/\(nth xs i).a4<=pages/\0<=(nth xs i).At/\(nth xs i).At<=pages - (nth xs i).a4:=by grind [fy,gv,rangeIn]
theorem mO(pages:Int)(xs:List aE)(d:0<=pages/\pages<=1048576)(k:gc xs):zzA 209 false [.val none [I pages],.val none (bp .S xs)] .one [B (bF pages xs)]:=by
 have n:=k.1;refine fO 46 [(4,32,[12,13,14,15,16,17,18,19,20,21,22,23,24,25,26,27,28,29,30,31,32,33,34,35,36,37,38,39,40,41,42,43])] Tryz.func209 rfl ?_
 refine ZP ?_
 refine CF (ι:=Nat) (λi=>[(0,.G .one [I (pages)]),(1,.G .one (bp .S xs)),(5,.G .one [I ((i:Nat):Int)])]) (λi=>i<=xs.length/\df i (gv pages xs)=true) (λi=>xs.length - i) 0 ?_ ⟨X0 _,rfl⟩ λi e=>?_
 ·exact wB
 obtain⟨e,g⟩:=e;by_cases c:i<xs.length
 ·have j:=ar c
  have o:0<i->1<=(nth xs (i - 1)).a4/\(nth xs (i - 1)).a4<=pages/\0<=(nth xs (i - 1)).At/\(nth xs (i - 1)).At<=pages - (nth xs (i - 1)).a4:=λh=>Ad g ω
  cases b:rangeIn pages (nth xs i) with
  | false=>
   have a:=zk pages (nth xs i) d;rw[b]at a
   refine ZE ?_
   exact Z0 (λz=>[B z]) ((by grind [cB,bF,gv]))
  | true=>
   have a:=zk pages (nth xs i) d;rw[b]at a
   repeat'(first|refine gE ?_|with_reducible refine Bf.D (λl=>?_) (λl=>?_)|refine CK ω (aa (gx ω c)) ?_)
   all_goals first
    | exact Z0 (λz=>[B z]) ((by symm;unfold bF;rw[cB c (by unfold gv;rw[b,W0 ω];rfl)];rfl))
    | ((conv=>whnf);refine CD (i+1) ⟨ω,bV g (by unfold gv;rw[b,O0 ω];rfl)⟩ ω ?_;(exact wB))
 repeat'(first|refine gE ?_|refine C8 (aM pages 1 32) ?_)
 grind [bF]
theorem mS(pages:Int)(xs:List aE)(j:0<=pages/\pages<=1048576)(k:gc xs):zzA 75 false [.val none [I pages],.val none (bp .S xs)] .one [B (bF pages xs)]:=by
 have n:=k.1;refine fO 43 [(4,26,[14,15,16,17,18,19,20,21,22,23,24,25,26,27,28,29,30,31,32,33,34,35,36,37,38,39])] Tryz.func75 rfl ?_
 refine ZP ?_
 refine CF (ι:=Nat) (λi=>[(0,.G .one [I (pages)]),(1,.G .one (bp .S xs)),(7,.G .one (bp .S xs)),(8,.G .one [I (xs.length)]),(9,.G .one [I ((i:Nat):Int)])]) (λi=>i<=xs.length/\df i (gv pages xs)=true) (λi=>xs.length - i) 0 ?_ ⟨X0 _,rfl⟩ λi d=>?_
 ·exact wB
 obtain⟨d,e⟩:=d;by_cases c:i<xs.length
 ·have g:=ar c
  have o:0<i->1<=(nth xs (i - 1)).a4/\(nth xs (i - 1)).a4<=pages/\0<=(nth xs (i - 1)).At/\(nth xs (i - 1)).At<=pages - (nth xs (i - 1)).a4:=λh=>Ad e ω
  have a:=xA pages (nth xs i) j;cases b:rangeIn pages (nth xs i) with
  | false=>
   rw[b]at a
   refine ZE ?_
   exact Z0 (λz=>[B z]) ((by grind [cB,bF,gv]))
  | true=>
   rw[b]at a
   repeat'(first|refine gE ?_|with_reducible refine Bf.D (λl=>?_) (λl=>?_)|refine CK ω (aa (gx ω c)) ?_)
   all_goals first
    | exact Z0 (λz=>[B z]) ((by symm;unfold bF;rw[cB c (by unfold gv;rw[b,W0 ω];rfl)];rfl))
    | ((conv=>whnf);refine CD (i+1) ⟨ω,bV e (by unfold gv;rw[b,O0 ω];rfl)⟩ ω ?_;(exact wB))
 repeat'(first|refine gE ?_|refine C8 (aI pages 1 32) ?_)
 grind [bF]
theorem AY(xs:List aE)(page:Int)(g:xs.length<=9223372036854775807):zzA 356 false [.val none (bp .S xs),.val none [I page]] .one [B (xs.any (wX page))]:=by
 refine fO 34 [(4,22,[12,13,14,15,16,17,18,19,20,21,22,23,24,25,26,27,28,29,30,31,32,33])] Tryz.func356 rfl ?_
 refine ZP ?_
 refine CF (ι:=Nat) (λi=>[(0,.G .one (bp .S xs)),(1,.G .one [I (page)]),(5,.G .one [I ((i:Nat):Int)])]) (λi=>i<=xs.length/\(xs.take i).any (wX page)=false) (λi=>xs.length - i) (0) ?_ ψ λi b=>?_
 ·exact wB
 obtain⟨b,c⟩:=b;by_cases d:i<xs.length
 ·have a:=ar d
  repeat'(first|refine gE ?_|with_reducible refine Bf.D (λe=>?_) (λe=>?_)|refine CL rfl ?_)
  all_goals first
   | exact Z0 (λz=>[B z]) ((DV a (by unfold wX;rw[O0 (by assumption),O0 (by assumption)];rfl)).symm)
   | ((conv=>whnf);refine CD (i+1) ⟨ω,xM a c (by unfold wX;first|(rw[W0 (by assumption:¬(nth xs i).At<=page)];rfl)|(rw[W0 (by assumption:¬page<_)];simp))⟩ ω ?_;(exact wB))
 refine ZE ?_
 exact Z0 (λz=>[B z]) ψ
variable{z:Int}
def tdiv16(h:0<=z):z.tdiv 16=z / 16:=Int.tdiv_eq_ediv_of_nonneg h
theorem ne(z:Int):zzA 370 false [.val none [I z]] .one [I (er z)]:=by
 refine fO 10 [] Tryz.func370 rfl ?_;by_cases b:9<=z/\z<=1000
 ·repeat'(first|refine gE ?_|with_reducible refine Bf.D (λa=>?_) (λa=>?_)|refine C8 (aM z 9 1000) ?_|refine CN (by decide) ?_|refine CL ((Z0 _ (tdiv16 ω)).trans (fW ω ω)) ?_)
  grind [er]
 repeat'(first|refine gE ?_|with_reducible refine Bf.D (λa=>?_) (λa=>?_)|refine C8 (aM z 9 1000) ?_)
 all_goals exact Z0 (λz=>[I z]) (by unfold er;rw[CB b])
theorem mQ(z:Int):zzA 191 false [.val none [I z]] .one [I (er z)]:=by
 refine fO 10 [] Tryz.func191 rfl ?_;by_cases b:9<=z/\z<=1000
 ·repeat'(first|refine gE ?_|with_reducible refine Bf.D (λa=>?_) (λa=>?_)|refine C8 (aI z 9 1000) ?_|refine CN (by decide) ?_|refine CL ((Z0 _ (tdiv16 ω)).trans (fW ω ω)) ?_)
  grind [er]
 repeat'(first|refine gE ?_|with_reducible refine Bf.D (λa=>?_) (λa=>?_)|refine C8 (aI z 9 1000) ?_)
 all_goals exact Z0 (λz=>[I z]) (by unfold er;rw[CB b])
def nL(l:aD):zzA 354 false [.val (some 3) (aD.enc .S l)] .one [B (bZ l)]:=by
 have b:=ne l.a1;by_cases c:9<=l.a1/\l.a1<=1000
 ·rw[show er l.a1=(l.a1+15) / 16 from CC c]at b
  refine fO 22 [] Tryz.func354 rfl ?_
  repeat'(first|refine gP ?_|with_reducible (first|refine Bf.D (λa=>?_) (λa=>?_)|refine Bf.E (λa=>?_) (λa=>?_))|refine C8 (aM _ 0 _) ?_)
  all_goals exact Z0 (λz=>[B z]) ((by unfold bZ;first|(symm;exact W0 ω)|exact decide_eq_decide.2 ω))
 rw[show er l.a1=0 from CB c]at b;refine fO 22 [] Tryz.func354 rfl ?_
 repeat'(first|refine gE ?_|with_reducible refine Bf.D (λa=>?_) (λa=>?_))
 all_goals exact Z0 (λz=>[B z]) ((by unfold bZ;symm;exact W0 ω))
def nX(l:aD):zzA 226 false [.val (some 3) (aD.enc .S l)] .one [B (bZ l)]:=by
 have b:=mQ l.a1;by_cases c:9<=l.a1/\l.a1<=1000
 ·rw[show er l.a1=(l.a1+15) / 16 from CC c]at b
  refine fO 22 [(1,20,[3,4,5,6,7,8,9,10,11,12,13,14,15,16,17,18,19,20,21,2])] Tryz.func226 rfl ?_
  repeat'(first|refine gE ?_|with_reducible (first|refine Bf.D (λa=>?_) (λa=>?_)|refine Bf.E (λa=>?_) (λa=>?_))|refine C8 (aI _ 9 1000) ?_|refine C8 (aI _ 0 _) ?_)
  all_goals exact Z0 (λz=>[B z]) ((by unfold bZ;first|(symm;exact W0 ω)|exact decide_eq_decide.2 ω))
 refine fO 22 [(1,20,[3,4,5,6,7,8,9,10,11,12,13,14,15,16,17,18,19,20,21,2])] Tryz.func226 rfl ?_
 repeat'(first|refine gE ?_|with_reducible refine Bf.D (λa=>?_) (λa=>?_)|refine C8 (aI _ 9 1000) ?_)
 all_goals exact Z0 (λz=>[B z]) ((by unfold bZ;symm;exact W0 ω))
theorem qC(h:0<=z/\z<=9223372036854775807):(BitVec.ofInt IntKind.i64.bits z).toNat=z.toNat:=by
 show(BitVec.ofInt 64 z).toNat=z.toNat
 grind
theorem and64{z1 z2:Int}(h1:0<=z1/\z1<=9223372036854775807)(a:0<=z2/\z2<=9223372036854775807):IntKind.i64.wrap ((BitVec.ofInt IntKind.i64.bits z1 &&& BitVec.ofInt IntKind.i64.bits z2).toNat:Nat)=((z1.toNat &&& z2.toNat:Nat):Int):=by grind [qC,Nat.and_le_left,fW]
theorem HU(k:Int):lim k<=65535:=by grind [lim]
variable{s:aA}
def fC(h:bk s=true):0<=s.a6/\s.a6<=9223372036854775807:=by
 unfold bk at h;simp only[C0]at h;have:=HU s.Z;omega
def mG(b c:aA):zzA 357 false [.val (some 3) (aA.enc .S b),.val (some 3) (aA.enc .S c)] .one [B (meshable b c)]:=by
 have g:=gS b;have h:=gS c;cases d:bk b<;>rw[d]at g<;>cases e:bk c<;>rw[e]at h
 all_goals
  refine fO 33 [] Tryz.func357 rfl ?_
  repeat'(first|refine gP ?_|with_reducible (first|refine Bf.D (λa=>?_) (λa=>?_)|refine Bf.N (λa=>?_) (λa=>?_)|refine Bf.E (λa=>?_) (λa=>?_))|refine CL (and64 (fC d) (fC e)) ?_)
  all_goals exact Z0 (λz=>[B z]) ((by unfold meshable;rw[d,e];first|rfl|(symm;exact W0 ω)|(rw[v5];simp;omega)))
def mM(b c:aA):zzA 229 false [.val (some 3) (aA.enc .S b),.val (some 3) (aA.enc .S c)] .one [B (meshable b c)]:=by
 have g:=g9 b;have h:=g9 c;cases d:bk b<;>rw[d]at g<;>cases e:bk c<;>rw[e]at h
 all_goals
  refine fO 33 [] Tryz.func229 rfl ?_
  repeat'(first|refine gP ?_|with_reducible (first|refine Bf.D (λa=>?_) (λa=>?_)|refine Bf.N (λa=>?_) (λa=>?_)|refine Bf.E (λa=>?_) (λa=>?_))|refine CL (and64 (fC d) (fC e)) ?_)
  all_goals exact Z0 (λz=>[B z]) ((by unfold meshable;rw[d,e];first|rfl|(symm;exact W0 ω)|(rw[v5];simp;omega)))
def Dz(k:Int):zzA 384 false [.val none [I k]] .one [B (decide (0<=k/\k<=15))]:=by
 refine fO 5 [] Tryz.func384 rfl ?_
 repeat'(first|refine gP ?_|refine C8 (aI k 0 15) ?_)
 rfl
def vX(p:cf)(e:cf.sml p):zzA 365 false [.val (some 3) (cf.enc .S p)] .one [B (fH p)]:=by
 have h:p.W.length<=1048576:=e;refine fO 51 [(4,25,[11,12,13,14,15,16,17,18,19,20,21,22,23,24,25,26,27,28,29,30,31,32,33,34,35])] Tryz.func365 rfl ?_
 refine ZP ?_
 refine CF (ι:=Nat) (λi=>[(1,.G .box (cf.enc .S p)),(3,.G .one [I ((i:Nat):Int)])]) (λi=>i<=p.W.length/\df i (o6 p.W)=true) (λi=>p.W.length - i) 0 ?_ ⟨X0 _,rfl⟩ λi c=>?_
 ·exact wB
 obtain⟨c,d⟩:=c;by_cases b:i<p.W.length
 ·have g:=ar b
  repeat'(first|refine gE ?_|with_reducible refine Bf.D (λa=>?_) (λa=>?_)|refine C8 (aM _ 0 15) ?_|refine CK ω (aa (gx ω b)) ?_)
  all_goals first
   | exact Z0 (λz=>[B z]) ((by symm;unfold fH;rw[cB b (W0 ω)];rfl))
   | ((conv=>whnf);refine CD (i+1) ⟨ω,bV d (O0 ω)⟩ ω ?_;(exact wB))
 obtain rfl:i=p.W.length:=ω
 repeat'(first|refine gE ?_|with_reducible (first|refine Bf.D (λa=>?_) (λa=>?_)|refine Bf.NB (λa=>?_) (λa=>?_)|refine Bf.N (λa=>?_) (λa=>?_))|refine C8 (aM _ 0 31) ?_)
 all_goals exact Z0 (λz=>[B z]) ((by unfold fH;rw[d];simp only[Bool.true_and];first|(symm;exact W0 ω)|exact decide_eq_decide.2 ω|(rw[v5];simp;omega)))
def wv(p:cf)(e:cf.sml p):zzA 239 false [.val (some 3) (cf.enc .S p)] .one [B (fH p)]:=by
 have h:p.W.length<=1048576:=e;refine fO 46 [] Tryz.func239 rfl ?_
 refine ZP ?_
 refine CF (ι:=Nat) (λi=>[(1,.G .box (cf.enc .S p)),(6,.G .one (aG .S p.W)),(7,.G .one [I (p.W.length)]),(8,.G .one [I ((i:Nat):Int)])]) (λi=>i<=p.W.length/\df i (o6 p.W)=true) (λi=>p.W.length - i) 0 ?_ ⟨X0 _,rfl⟩ λi c=>?_
 ·exact wB
 obtain⟨c,d⟩:=c;by_cases b:i<p.W.length
 ·have g:=ar b
  repeat'(first|refine gE ?_|with_reducible refine Bf.D (λa=>?_) (λa=>?_)|refine C8 (Dz _) ?_|refine CK ω (aa (gx ω b)) ?_)
  all_goals first
   | exact Z0 (λz=>[B z]) ((by symm;unfold fH;rw[cB b (W0 ω)];rfl))
   | ((conv=>whnf);refine CD (i+1) ⟨ω,bV d (O0 ω)⟩ ω ?_;(exact wB))
 obtain rfl:i=p.W.length:=ω
 repeat'(first|refine gE ?_|with_reducible (first|refine Bf.D (λa=>?_) (λa=>?_)|refine Bf.NB (λa=>?_) (λa=>?_)|refine Bf.N (λa=>?_) (λa=>?_))|refine C8 (aI _ 0 31) ?_)
 all_goals exact Z0 (λz=>[B z]) ((by unfold fH;rw[d];simp only[Bool.true_and];first|(symm;exact W0 ω)|exact decide_eq_decide.2 ω|(rw[v5];simp;omega)))
def yZ(j:cz)(a:cz.sml j):zzA 218 false [.val (some 5) (cz.enc .S j)] .one [B (jA j)]:=by
 have e:j.b.W.length<=1048576:=a;have b:=vX j.b a;cases c:fH j.b<;>rw[c]at b
 all_goals
  refine fO 20 [] Tryz.func218 rfl ?_
  repeat'(first|refine gP ?_|with_reducible refine Bf.D (λd=>?_) (λd=>?_)|refine C8 (aM _ 0 5) ?_|refine C8 (aM _ 0 _) ?_)
  all_goals exact Z0 (λz=>[B z]) ((by unfold jA;rw[c];first|rfl|(symm;exact W0 ω)|(rw[v5];simp;omega)))
def yF(j:cz)(a:cz.sml j):zzA 84 false [.val (some 5) (cz.enc .S j)] .one [B (jA j)]:=by
 have e:j.b.W.length<=1048576:=a;have b:=wv j.b a;cases c:fH j.b<;>rw[c]at b
 all_goals
  refine fO 20 [] Tryz.func84 rfl ?_
  repeat'(first|refine gP ?_|with_reducible refine Bf.D (λd=>?_) (λd=>?_)|refine C8 (aI _ 0 5) ?_|refine C8 (aI _ 0 _) ?_)
  all_goals exact Z0 (λz=>[B z]) ((by unfold jA;rw[c];first|rfl|(symm;exact W0 ω)|(rw[v5];simp;omega)))
theorem lI(l:aD)(k:Nat):lpgs l (k+1)=lpgs l k++[l.R+(k:Nat)]:=by grind [List.range_succ,lpgs]
theorem F5(l:aD)(k:Nat):(lpgs l k).length=k:=by unfold lpgs;simp
theorem Pd(l:aD)(h:k<=n):lpgs l k <+: lpgs l n:=by
 induction n with
 | zero=>
  grind
 | succ n a=>
  grind [lI]
variable{la:List aD}
theorem pA(sp:List aA){l:aD}(h:la[i]? = some l):pgs sp (la.take (i+1))=pgs sp (la.take i)++lpgs l l.w.toNat:=by grind [X5,pgs]
theorem QZ(sp:List aA)(la:List aD)(i:Nat):pgs sp (la.take i) <+: pgs sp la:=by grind [List.take_append_drop,pgs]
variable{p:Int}{S:List Int}
theorem NH{all:List Int}(h:(S++[p]) <+: all)(a:p∈S):decide all.Nodup=false:=by grind [List.nodup_append]
theorem lM(h:S.Nodup)(a:p∉S):(S++[p]).Nodup:=ψ
variable{sp:List aA}
theorem FK(h:sp[i]? = some s):((sp.take i).map (·.R)++[s.R]) <+: pgs sp la:=by
 have a:(sp.take i).map (·.R)++[s.R]=(sp.take (i+1)).map (·.R):=by grind [X5]
 rw[a];refine List.IsPrefix.trans ?_ (List.prefix_append ..)
 grind
theorem D2{l:aD}(h:la[i]? = some l)(a:k<l.w.toNat):(pgs sp (la.take i)++lpgs l k++[l.R+(k:Nat)]) <+: pgs sp la:=by
 refine List.IsPrefix.trans ?_ (QZ sp la (i+1));rw[pA sp h,Y5,<-lI]
 grind [List.prefix_append_right_inj,Pd]
theorem rN(h:sp[i]? = some s)(a:bk s=false):bx sp la=false:=by grind [bx]
theorem pM{l:aD}(h:la[i]? = some l)(a:bZ l=false):bx sp la=false:=by grind [bx]
theorem ll(h:(S++[p]) <+: pgs sp la)(a:p∈S):bx sp la=false:=by grind [NH,bx]
theorem uv(h1:sp.all bk=true)(a:la.all bZ=true)(b:(pgs sp la).Nodup):bx sp la=true:=by grind [bx]
theorem aX{l:aD}(h:bZ l=true):1<=l.w/\l.w<=63/\0<=l.R/\l.R<=31:=by grind [bZ]
theorem mN(sp:List aA)(la:List aD)(t:dM sp)(u:ed la):zzA 210 false [.val none (bW .S sp),.val none (ch .S la)] .one [B (bx sp la)]:=by
 have J:=t.1;have K:=u.1;refine fO 79 [] Tryz.func210 rfl ?_
 refine ZP ?_
 refine CF (ι:=Nat × List Int) (λi=>[(0,.G .one (bW .S sp)),(1,.G .one (ch .S la)),(5,.G .one (aG .own i.2)),(6,.G .one [I ((i.1:Nat):Int)])]) (λi=>i.1<=sp.length/\i.2=(sp.take i.1).map (·.R)/\(sp.take i.1).all bk=true/\i.2.Nodup) (λi=>sp.length - i.1) ((0,[])) ?_ ψ λi o=>?_
 ·exact wB
 obtain⟨i,S⟩:=i;obtain⟨o,q,d,h⟩:=o;simp only at o q d h |-;have L:S.length=i:=ψ
 by_cases w:i<sp.length
 ·have a:=ar w
  have j:=gS (nth sp i);cases e:bk (nth sp i)<;>rw[e]at j
  ·refine ZE ?_
   exact Z0 (λz=>[B z]) ((rN a e).symm)
  repeat'(first|refine gE ?_|with_reducible refine Bf.D (λy=>?_) (λy=>?_)|refine CG (n6 S _ ω) ⟨⟨rfl,d9 _⟩,⟨rfl,rfl⟩,trivial⟩ ?_|refine CT cR (λr E=>by rw[V1.1 E];rfl) (by simp[bn,eP]) (by simp;omega) (by simp only[I1];exact xi (by simp;omega) (by decide)) rfl ?_)
  all_goals first
   | exact Z0 (λz=>[B z]) ((ll (S:=S) (by rw[q];exact FK a) (by assumption)).symm)
   | ((conv=>whnf)
      refine CD (i+1,S++[(nth sp i).R]) ⟨(by simp only;omega),(by simp only;rw[q,X5,a];simp),(cX a d e),lM h (by assumption)⟩ (by simp only;omega) ?_
      (repeat'(first|exact trivial|rfl|exact CJ rfl (CJ (Z0 (C.s dA.own) (by simp[rI])) trivial)|refine CJ ?_ ?_)))
 obtain rfl:i=sp.length:=ω
 rw[I5]at d q
 refine ZE ?_
 refine CF (ι:=Nat × List Int) (λi=>[(1,.G .one (ch .S la)),(5,.G .one (aG .own i.2)),(7,.G .one [I ((i.1:Nat):Int)])]) (λi=>i.1<=la.length/\i.2=pgs sp (la.take i.1)/\(la.take i.1).all bZ=true/\i.2.Nodup/\i.2.length<=1048576+64*i.1) (λi=>la.length - i.1) ((0,S)) ?_ (⟨X0 _,by grind [pgs],rfl,h,by simp only;omega⟩) λi o=>?_
 ·exact wB
 obtain⟨i,S2⟩:=i;obtain⟨F,l,b,g,G⟩:=o;simp only at F l b g G |-;by_cases w:i<la.length
 ·have a:=ar w
  have j:=nL (nth la i);cases e:bZ (nth la i)<;>rw[e]at j
  ·refine ZE ?_
   exact Z0 (λz=>[B z]) ((pM a e).symm)
  have M:=aX e
  refine ZE ?_
  refine CF (ι:=Nat × List Int) (λk=>[(1,.G .one (ch .S la)),(5,.G .one (aG .own k.2)),(7,.G .one [I ((i:Nat):Int)]),(8,.G .one [I ((k.1:Nat):Int)])]) (λk=>k.1<=(nth la i).w.toNat/\k.2=S2++lpgs (nth la i) k.1/\k.2.Nodup) (λk=>(nth la i).w.toNat - k.1) ((0,S2)) ?_ (⟨X0 _,by simp[lpgs],g⟩) λk H=>?_
  ·exact wB
  obtain⟨k,p⟩:=k;obtain⟨H,n,c⟩:=H;simp only at H n c |-;have N:p.length=S2.length+k:=by grind [F5]
  by_cases O:k<(nth la i).w.toNat
  ·repeat'(first|refine gE ?_|with_reducible refine Bf.D (λy=>?_) (λy=>?_)|refine CG (n6 p _ ω) ⟨⟨rfl,d9 _⟩,⟨rfl,rfl⟩,trivial⟩ ?_|refine CT cR (λr E=>by rw[V1.1 E];rfl) (by simp[bn,eP]) (by simp;omega) (by show _*8<=_;simp;omega) rfl ?_)
   all_goals first
    | exact Z0 (λz=>[B z]) ((ll (S:=p) (by rw[n,l];exact D2 a O) (by assumption)).symm)
    | ((conv=>whnf)
       refine CD (k+1,p++[(nth la i).R+(k:Nat)]) ⟨(by simp only;omega),(by simp only;rw[n,lI,Y5]),lM c (by assumption)⟩ (by simp only;omega) ?_
       (repeat'(first|exact trivial|rfl|exact CJ rfl (CJ (Z0 (C.s dA.own) (by simp[rI])) trivial)|refine CJ ?_ ?_)))
  obtain rfl:k=(nth la i).w.toNat:=ω
  refine ZE ?_
  (refine CD (i+1,p) ⟨(by simp only;omega),(by grind [pA]),(cX a b e),c,(by simp only;omega)⟩ (by simp only;omega) ?_;(exact wB))
 obtain rfl:i=la.length:=ω
 rw[I5]at b l
 refine ZE ?_
 exact Z0 (λz=>[B z]) ((uv d b ψ).symm)
def ins(S:List Int)(p:Int):List Int:=if p∈S then S else S++[p]
theorem Lu{p:Int} : ∀{S:List Int},p∈S->mput (fX S) p (.bool true)=fX S
 | x::S,h=>by
  simp only[fX,I6,mput];by_cases a:x=p
  ·rw[CC a,a]
  rw[CB a];have:=Lu (S:=S) ((List.mem_cons.1 h).resolve_left λe=>a e.symm)
  grind [fX]
theorem zT(S:List Int)(p:Int):fX (ins S p)=mput (fX S) p (.bool true):=by grind [Lu,ve,ins]
theorem Nl(S:List Int)(p:Int):zzB 224 false [.val none [I p],.ptr [.m (fX S)]] [.val none [I p],.ptr [.m (fX (ins S p))]] .one [B (decide (p∉S))]:=by
 refine fM 12 [] [] [(0,0),(0,0)] Tryz.func224 rfl (λu q=>?_)
 repeat'(first|refine gP ?_|refine Ml.mk (oo p S) ?_|refine Mu.mk (zT S p) ?_)
 refine CH rfl ?_ ?_
 ·grind
 exact wB
theorem rx(sp:List aA)(la:List aD)(t:dM sp)(u:ed la):zzA 76 false [.val none (bW .S sp),.val none (ch .S la)] .one [B (bx sp la)]:=by
 have F:=t.1;have G:=u.1;refine fP 54 [(224,[0,2])] [] Tryz.func76 rfl ?_
 refine ZP ?_
 refine CF (ι:=Nat × List Int) (λi=>[(1,.G .one (ch .S la)),(5,.G .box [.m (fX i.2)]),(6,.fn 224 [5]),(14,.G .one (bW .S sp)),(15,.G .one [I (sp.length)]),(16,.G .one [I ((i.1:Nat):Int)])]) (λi=>i.1<=sp.length/\i.2=(sp.take i.1).map (·.R)/\(sp.take i.1).all bk=true/\i.2.Nodup) (λi=>sp.length - i.1) ((0,[])) ?_ ψ λi p=>?_
 ·exact wB
 obtain⟨i,S⟩:=i;obtain⟨p,r,e,j⟩:=p;simp only at p r e j |-;by_cases w:i<sp.length
 ·have c:=ar w
  have l:=g9 (nth sp i);cases g:bk (nth sp i)<;>rw[g]at l
  ·refine ZE ?_
   exact Z0 (λz=>[B z]) ((rN c g).symm)
  repeat'(first|refine gE ?_|with_reducible refine Bf.D (λy=>?_) (λy=>?_)|refine CI (Nl S _) (.inl rfl) ?_)
  all_goals first
   | exact Z0 (λz=>[B z]) ((ll (S:=S) (by rw[r];exact FK c) ψ).symm)
   |(have a:(nth sp i).R∉S:=by assumption
     (conv=>whnf)
     refine CD (i+1,ins S (nth sp i).R) ⟨(by simp only;omega),(by simp only;unfold ins;rw[CB a,r,X5,c];simp),(cX c e g),(by simp only;unfold ins;rw[CB a];exact lM j a)⟩ (by simp only;omega) ?_
     (exact wA))
 obtain rfl:i=sp.length:=ω
 rw[I5]at e r
 refine ZE ?_
 refine CF (ι:=Nat × List Int) (λi=>[(5,.G .box [.m (fX i.2)]),(6,.fn 224 [5]),(31,.G .one (ch .S la)),(32,.G .one [I (la.length)]),(33,.G .one [I ((i.1:Nat):Int)])]) (λi=>i.1<=la.length/\i.2=pgs sp (la.take i.1)/\(la.take i.1).all bZ=true/\i.2.Nodup) (λi=>la.length - i.1) ((0,S)) ?_ (⟨X0 _,by grind [pgs],rfl,j⟩) λi p=>?_
 ·exact wB
 obtain⟨i,S2⟩:=i;obtain⟨C,n,b,h⟩:=p;simp only at C n b h |-;by_cases w:i<la.length
 ·have c:=ar w
  have l:=nX (nth la i);cases g:bZ (nth la i)<;>rw[g]at l
  ·refine ZE ?_
   exact Z0 (λz=>[B z]) ((pM c g).symm)
  have H:=aX g
  refine ZE ?_
  refine CF (ι:=Nat × List Int) (λk=>[(5,.G .box [.m (fX k.2)]),(6,.fn 224 [5]),(10,.G .box (aD.enc .S (nth la i))),(11,.G .one [I ((k.1:Nat):Int)]),(31,.G .one (ch .S la)),(32,.G .one [I (la.length)]),(33,.G .one [I ((i:Nat):Int)])]) (λk=>k.1<=(nth la i).w.toNat/\k.2=S2++lpgs (nth la i) k.1/\k.2.Nodup) (λk=>(nth la i).w.toNat - k.1) ((0,S2)) ?_ (⟨X0 _,by simp[lpgs],h⟩) λk E=>?_
  ·exact wB
  obtain⟨k,q⟩:=k;obtain⟨E,o,d⟩:=E;simp only at E o d |-;by_cases J:k<(nth la i).w.toNat
  ·repeat'(first|refine gE ?_|with_reducible refine Bf.D (λy=>?_) (λy=>?_)|refine CI (Nl q _) (.inl rfl) ?_)
   all_goals first
    | exact Z0 (λz=>[B z]) ((ll (S:=q) (by rw[o,n];exact D2 c J) ψ).symm)
    |(have a:(nth la i).R+(k:Nat)∉q:=by assumption
      (conv=>whnf)
      refine CD (k+1,ins q ((nth la i).R+(k:Nat))) ⟨(by simp only;omega),(by simp only;unfold ins;rw[CB a,o,lI,Y5]),(by simp only;unfold ins;rw[CB a];exact lM d a)⟩ (by simp only;omega) ?_
      (exact wA))
  obtain rfl:k=(nth la i).w.toNat:=ω
  refine ZE ?_
  (refine CD (i+1,q) ⟨(by simp only;omega),(by grind [pA]),(cX c b g),d⟩ (by simp only;omega) ?_;(exact wB))
 obtain rfl:i=la.length:=ω
 rw[I5]at b n
 refine ZE ?_
 exact Z0 (λz=>[B z]) ((uv e b ψ).symm)
theorem aL(h:bk s=true):0<=s.R/\s.R<=31/\0<=s.Z/\s.Z<=3:=by grind [bk]
theorem cW{k:Int}(h:0<=k/\k<=3):csz k=1\/csz k=2\/csz k=4\/csz k=8:=by
 obtain rfl|rfl|rfl|rfl:k=0\/k=1\/k=2\/k=3:=ω
 all_goals decide
def th{x y:Int}(h:0<=x):x.tdiv y=x / y:=Int.tdiv_eq_ediv_of_nonneg h
def ew{x y:Int}(h:0<=x):x.tmod y=x % y:=Int.tmod_eq_emod_of_nonneg h
def S2(p:Int × Int):List C:=[I p.1,I p.2]
variable{b:Int}
theorem De{p:Int × Int}(h:(a,b)=p):[I a,I b]=S2 p:=by subst h;rfl
theorem wM(s:aA)(a:Int)(k:kV a):zzA 473 false [.val (some 3) (aA.enc .S s),.val none [I a]] (.tup [none,none]) (S2 (jh s a)):=by
 have c:=gS s;have l:=eg s.Z;obtain⟨n,o⟩:=k;cases d:bk s<;>rw[d]at c
 ·refine fO 33 [(4,12,[23,24,25,26,27,28,29,30,31,32,4,5])] Tryz.func473 rfl ?_ (.inr ⟨trivial,trivial,trivial⟩)
  refine ZP ?_
  exact De (by grind [jh,dG])
 have h:=aL d;have i:=cW ⟨h.2.2.1,h.2.2.2⟩;by_cases g:16*s.R<=a/\a<=16*s.R+15
 ·have j:0<=a:=ω
  refine fO 33 [(4,12,[23,24,25,26,27,28,29,30,31,32,4,5])] Tryz.func473 rfl ?_ (.inr ⟨trivial,trivial,trivial⟩)
  repeat'(first|refine gE ?_|with_reducible refine Bf.N (λb=>?_) (λb=>?_)|refine CN (by decide) ?_|refine CN ω ?_|refine CL ((Z0 _ (th j)).trans (fW ω ω)) ?_|refine CQ (ew j) ?_|refine CL ((Z0 _ (th ω)).trans (fW (by rcases i with e|e|e|e<;>rw[e]<;>omega) (by rcases i with e|e|e|e<;>rw[e]<;>omega))) ?_|refine CQ (ew ω) ?_)
  all_goals grind [De,jh,dG]
 refine fO 33 [(4,12,[23,24,25,26,27,28,29,30,31,32,4,5])] Tryz.func473 rfl ?_ (.inr ⟨trivial,trivial,trivial⟩)
 repeat'(first|refine gP ?_|with_reducible (first|refine Bf.D (λb=>?_) (λb=>?_)|refine Bf.N (λb=>?_) (λb=>?_))|refine CN (by decide) ?_|refine CL ((Z0 _ (th ω)).trans (fW ω ω)) ?_)
 all_goals first
  |exact De (by unfold jh dG;rw[d,W0 g];rfl)
  |(exfalso;omega)
theorem G5(s:aA)(a:Int):zzA 379 false [.val (some 3) (aA.enc .S s),.val none [I a]] (.tup [none,none]) (S2 (jh s a)):=by
 have b:=g9 s;have j:=dl s.Z;cases c:bk s<;>rw[c]at b
 ·refine fO 38 [(4,12,[28,29,30,31,32,33,34,35,36,37,4,5])] Tryz.func379 rfl ?_ (.inr ⟨trivial,trivial,trivial⟩)
  refine ZP ?_
  exact De (by grind [jh,dG])
 have h:=aL c;have i:=cW ⟨h.2.2.1,h.2.2.2⟩;by_cases d:16*s.R<=a/\a<=16*s.R+15
 ·refine fO 38 [(4,12,[28,29,30,31,32,33,34,35,36,37,4,5])] Tryz.func379 rfl ?_ (.inr ⟨trivial,trivial,trivial⟩)
  repeat'(first|refine gE ?_|with_reducible refine Bf.D (λg=>?_) (λg=>?_)|refine C8 (aI _ _ _) ?_|refine CN ω ?_|refine CL ((Z0 _ (th ω)).trans (fW (by rcases i with e|e|e|e<;>rw[e]<;>omega) (by rcases i with e|e|e|e<;>rw[e]<;>omega))) ?_|refine CQ (ew ω) ?_)
  grind [De,jh,dG]
 refine fO 38 [(4,12,[28,29,30,31,32,33,34,35,36,37,4,5])] Tryz.func379 rfl ?_ (.inr ⟨trivial,trivial,trivial⟩)
 repeat'(first|refine gE ?_|with_reducible refine Bf.D (λg=>?_) (λg=>?_)|refine C8 (aI _ _ _) ?_)
 all_goals exact De (by unfold jh dG;rw[c,W0 d];rfl)
def qR(b i:Int):zzA 547 false [.val none [I b],.val none [I i]] .one [B (decide (0<=b/\0<=i/\i<=15))]:=by
 refine fO 11 [] Tryz.func547 rfl ?_
 repeat'(first|refine gP ?_|with_reducible refine Bf.D (λa=>?_) (λa=>?_)|refine C8 (aM _ 0 15) ?_)
 all_goals exact Z0 (λz=>[B z]) ((by first|(symm;exact W0 ω)|exact decide_eq_decide.2 ω))
def qJ(b i:Int):zzA 457 false [.val none [I b],.val none [I i]] .one [B (decide (0<=b/\0<=i/\i<=15))]:=by
 refine fO 11 [] Tryz.func457 rfl ?_
 repeat'(first|refine gP ?_|with_reducible refine Bf.D (λa=>?_) (λa=>?_)|refine C8 (aI _ 0 15) ?_)
 all_goals exact Z0 (λz=>[B z]) ((by first|(symm;exact W0 ω)|exact decide_eq_decide.2 ω))
theorem Qg{i:Int}(a:0<=b/\b<=9223372036854775807)(e:0<=i/\i<=15):b.fdiv (2 ^ min i.toNat IntKind.i64.bits)=b / 2 ^ i.toNat/\0<=b / 2 ^ i.toNat/\b / 2 ^ i.toNat<=9223372036854775807:=by
 have d:min i.toNat IntKind.i64.bits=i.toNat:=Nat.min_eq_left (show i.toNat<=64 by omega);rw[d];have c:(0:Int)<=2 ^ i.toNat:=ψ
 refine⟨Int.fdiv_eq_ediv_of_nonneg _ c,Int.ediv_nonneg a.1 c,?_⟩;have:=Int.ediv_le_self (2 ^ i.toNat:Int) a.1;omega
theorem y9{i:Int}(a:0<=b)(c:0<=i/\i<=15):((((b / 2 ^ i.toNat).toNat &&& (1:Int).toNat:Nat):Int) == 1)=bh b i:=by
 have d:(0:Int)<=b / 2 ^ i.toNat:=Int.ediv_nonneg a ψ
 grind [bh]
theorem jj(b i:Int)(c:b<=9223372036854775807):zzA 474 false [.val none [I b],.val none [I i]] .one [B (bh b i)]:=by
 by_cases h:0<=b/\0<=i/\i<=15
 ·obtain⟨d,g⟩:=Qg (b:=b) (i:=i) ⟨h.1,c⟩ h.2
  have j:IntKind.u64.wrap i=i:=by grind [Go.IntKind.wrap,Go.IntKind.bits]
  refine fO 16 [] Tryz.func474 rfl ?_
  repeat'(first|refine gE ?_|with_reducible refine Bf.D (λa=>?_) (λa=>?_)|refine C8 (qR _ _) ?_|refine CN ω ?_|refine CL j ?_|refine CQ d ?_|refine CL (and64 g ⟨by decide,by decide⟩) ?_)
  grind [y9]
 refine fO 16 [] Tryz.func474 rfl ?_
 repeat'(first|refine gE ?_|with_reducible refine Bf.D (λa=>?_) (λa=>?_)|refine C8 (qR _ _) ?_)
 all_goals exact Z0 (λz=>[B z]) ((by unfold bh;symm;exact W0 λe=>h ⟨e.1,e.2.1,e.2.2.1⟩))
theorem gU(b i:Int)(c:b<=9223372036854775807):zzA 380 false [.val none [I b],.val none [I i]] .one [B (bh b i)]:=by
 by_cases h:0<=b/\0<=i/\i<=15
 ·obtain⟨d,g⟩:=Qg (b:=b) (i:=i) ⟨h.1,c⟩ h.2
  refine fO 15 [] Tryz.func380 rfl ?_
  repeat'(first|refine gE ?_|with_reducible refine Bf.D (λa=>?_) (λa=>?_)|refine C8 (qJ _ _) ?_|refine CN ω ?_|refine CQ d ?_|refine CL (and64 g ⟨by decide,by decide⟩) ?_)
  grind [y9]
 refine fO 15 [] Tryz.func380 rfl ?_
 repeat'(first|refine gE ?_|with_reducible refine Bf.D (λa=>?_) (λa=>?_)|refine C8 (qJ _ _) ?_)
 all_goals exact Z0 (λz=>[B z]) ((by unfold bh;symm;exact W0 λe=>h ⟨e.1,e.2.1,e.2.2.1⟩))
theorem cF{l:aD}(h:bZ l=true):9<=l.a1/\l.a1<=1000/\0<=l.R/\l.R<=31:=by grind [bZ]
theorem rC(l:aD)(a:Int):zzA 475 false [.val (some 3) (aD.enc .S l),.val none [I a]] .one [B (bQ l a)]:=by
 have b:=nL l;cases c:bZ l<;>rw[c]at b
 ·refine fO 24 [] Tryz.func475 rfl ?_
  refine ZP ?_
  exact Z0 (λz=>[B z]) ((by grind [bQ]))
 have e:=cF c;refine fO 24 [] Tryz.func475 rfl ?_
 repeat'(first|refine gP ?_|with_reducible refine Bf.D (λd=>?_) (λd=>?_))
 all_goals exact Z0 (λz=>[B z]) ((by unfold bQ;rw[c,Bool.true_and];first|(symm;exact W0 ω)|exact decide_eq_decide.2 ω))
theorem r8(l:aD)(a:Int):zzA 381 false [.val (some 3) (aD.enc .S l),.val none [I a]] .one [B (bQ l a)]:=by
 have b:=nX l;cases c:bZ l<;>rw[c]at b
 ·refine fO 21 [] Tryz.func381 rfl ?_
  refine ZP ?_
  exact Z0 (λz=>[B z]) ((by grind [bQ]))
 have e:=cF c;refine fO 21 [] Tryz.func381 rfl ?_
 repeat'(first|refine gP ?_|with_reducible refine Bf.D (λd=>?_) (λd=>?_)|refine C8 (aI _ _ _) ?_)
 grind [bQ]
theorem vj(l:aD)(a:Int)(h:bQ l a=true):zzA 476 false [.val (some 3) (aD.enc .S l),.val none [I a]] .one [I (a - 16*l.R)]:=by
 have b:=rC l a;rw[h]at b;unfold bQ at h;simp only[I0,C0]at h;have c:=cF h.1;refine fO 14 [] Tryz.func476 rfl ?_
 refine ZP ?_
 grind
theorem vo(l:aD)(a:Int)(h:bQ l a=true):zzA 382 false [.val (some 3) (aD.enc .S l),.val none [I a]] .one [I (a - 16*l.R)]:=by
 have b:=r8 l a;rw[h]at b;unfold bQ at h;simp only[I0,C0]at h;have c:=cF h.1;refine fO 14 [] Tryz.func382 rfl ?_
 refine ZP ?_
 grind
variable{m:aN}
theorem q8(a:i<m.U.length)(h:gY m i=false):bB m=false:=by grind [cB,bB]
theorem yz(h:¬(1<=m.U.length/\m.U.length<=4/\m.g.length=m.U.length)):bB m=false:=by grind [bB]
theorem yx(h1:1<=m.U.length/\m.U.length<=4/\m.g.length=m.U.length)(a:df m.U.length (gY m)=true):bB m=decide (bI m m.U.length<=30):=by grind [bB]
theorem mE(m:aN)(h:aN.sml m):zzA 111 false [.val (some 2) (aN.enc .S m)] .one [B (bB m)]:=by
 have r:m.U.length<=1048576:=h.1.1;have t:m.g.length<=1048576:=h.2.1;by_cases u:1<=m.U.length/\m.U.length<=4/\m.g.length=m.U.length
 ·refine fO 92 [(19,15,[75,76,77,78,79,80,81,82,83,84,85,86,87,88,89])] Tryz.func111 rfl ?_
  repeat'(first|refine gB ?_|with_reducible (first|refine Bf.D (λa=>?_) (λa=>?_)|refine Bf.N (λa=>?_) (λa=>?_))|refine C8 (aM _ 1 4) ?_)
  refine CF (ι:=Nat) (λi=>[(1,.G .box (aN.enc .S m)),(3,.G .one [I (m.U.length)]),(4,.G .one [I (bI m i)]),(5,.G .one [I ((i:Nat):Int)])]) (λi=>i<=m.U.length/\df i (gY m)=true/\0<=bI m i/\bI m i<=2097152*i) (λi=>m.U.length - i) (0) ?_ (⟨X0 _,rfl,by simp[bI],by simp[bI]⟩) λi n=>?_
  ·exact wB
  obtain⟨n,w,F,G⟩:=n;by_cases j:i<m.U.length
  ·have l:=ar j
   have o:=ar (xs:=m.g) (i:=i) ω;have y:(nth m.U i).length<=1048576:=(h.1.2 _ (au j)).1;have C:(nth m.g i).length<=1048576:=h.2.2 _ ψ
   refine ZE ?_
   refine CF (ι:=Nat) (λk=>[(1,.G .box (aN.enc .S m)),(3,.G .one [I (m.U.length)]),(4,.G .one [I (bI m i)]),(5,.G .one [I ((i:Nat):Int)]),(6,.G .one [I ((k:Nat):Int)])]) (λk=>k<=(nth m.U i).length/\((nth m.U i).take k).all (nZ m.U.length)=true) (λk=>(nth m.U i).length - k) (0) ?_ ψ λk p=>?_
   ·exact wB
   obtain⟨p,q⟩:=p;by_cases E:k<(nth m.U i).length
   ·have c:=ar E
    repeat'(first|refine gE ?_|with_reducible refine Bf.D (λa=>?_) (λa=>?_)|refine C8 (aM _ 0 _) ?_)
    all_goals first
     | exact Z0 (λz=>[B z]) ((q8 j (by unfold gY;rw[gG c (by unfold nZ;exact W0 ω)];rfl)).symm)
     | ((conv=>whnf);refine CD (k+1) ⟨ω,cX c q (by unfold nZ;exact O0 ω)⟩ ω ?_;(exact wB))
   have H:=ot ω q
   refine ZE ?_
   refine CF (ι:=Nat) (λb=>[(1,.G .box (aN.enc .S m)),(3,.G .one [I (m.U.length)]),(4,.G .one [I (bI m i)]),(5,.G .one [I ((i:Nat):Int)]),(8,.G .one [I ((b:Nat):Int)])]) (λb=>b<=(nth m.g i).length/\((nth m.g i).take b).all Ru=true) (λb=>(nth m.g i).length - b) (0) ?_ ψ λb e=>?_
   ·exact wB
   obtain⟨e,ak2⟩:=e;by_cases lk2:b<(nth m.g i).length
   ·have c:=ar lk2
    repeat'(first|refine gE ?_|with_reducible refine Bf.D (λa=>?_) (λa=>?_))
    all_goals first
     | exact Z0 (λz=>[B z]) ((q8 j (by unfold gY;rw[gG c (by unfold Ru;exact W0 ω)];simp)).symm)
     | ((conv=>whnf);refine CD (b+1) ⟨ω,cX c ak2 (by unfold Ru;exact O0 ω)⟩ ω ?_;(exact wB))
   have ae2:=ot ω ak2;have g:bI m (i+1)=bI m i+((nth m.U i).length+(nth m.g i).length):=rfl;have d:bI m (i+1)=bI m i+(nth m.U i).length+(nth m.g i).length:=by rw[g];omega
   refine ZE ?_
   (refine CD (i+1) ⟨ω,bV w (by grind [gY]),ω,ω⟩ ω ?_)
   rw[d];exact wB
  obtain rfl:i=m.U.length:=ω
  refine ZE ?_
  grind [yx]
 refine fO 92 [(19,15,[75,76,77,78,79,80,81,82,83,84,85,86,87,88,89])] Tryz.func111 rfl ?_
 repeat'(first|refine gP ?_|with_reducible (first|refine Bf.D (λa=>?_) (λa=>?_)|refine Bf.N (λa=>?_) (λa=>?_))|refine C8 (aM _ 1 4) ?_)
 all_goals first
  | exact Z0 (λz=>[B z]) ((yz u).symm)
  |(exfalso;omega)
theorem m9(m:aN)(g:aN.sml m):zzA 78 false [.val (some 2) (aN.enc .S m)] .one [B (bB m)]:=by
 have q:m.U.length<=1048576:=g.1.1;have r:m.g.length<=1048576:=g.2.1;by_cases t:1<=m.U.length/\m.U.length<=4/\m.g.length=m.U.length
 ·refine fO 82 [(20,15,[64,65,66,67,68,69,70,71,72,73,74,75,76,77,78])] Tryz.func78 rfl ?_
  repeat'(first|refine gB ?_|with_reducible (first|refine Bf.D (λa=>?_) (λa=>?_)|refine Bf.N (λa=>?_) (λa=>?_))|refine C8 (aI _ 1 4) ?_)
  refine CF (ι:=Nat) (λi=>[(1,.G .box (aN.enc .S m)),(3,.G .one [I (m.U.length)]),(4,.G .one [I (bI m i)]),(25,.G .one [I (m.U.length)]),(26,.G .one [I ((i:Nat):Int)])]) (λi=>i<=m.U.length/\df i (gY m)=true/\0<=bI m i/\bI m i<=2097152*i) (λi=>m.U.length - i) (0) ?_ (⟨X0 _,rfl,by simp[bI],by simp[bI]⟩) λi n=>?_
  ·exact wB
  obtain⟨n,u,E,F⟩:=n;by_cases h:i<m.U.length
  ·have j:=ar h
   have l:=ar (xs:=m.g) (i:=i) ω;have w:(nth m.U i).length<=1048576:=(g.1.2 _ (au h)).1;have y:(nth m.g i).length<=1048576:=g.2.2 _ ψ
   refine ZE ?_
   refine CF (ι:=Nat) (λk=>[(1,.G .box (aN.enc .S m)),(3,.G .one [I (m.U.length)]),(4,.G .one [I (bI m i)]),(5,.G .one [I ((i:Nat):Int)]),(25,.G .one [I (m.U.length)]),(26,.G .one [I ((i:Nat):Int)]),(33,.G .one (bJ .S (nth m.U i))),(34,.G .one [I ((nth m.U i).length)]),(35,.G .one [I ((k:Nat):Int)])]) (λk=>k<=(nth m.U i).length/\((nth m.U i).take k).all (nZ m.U.length)=true) (λk=>(nth m.U i).length - k) (0) ?_ ψ λk o=>?_
   ·exact wB
   obtain⟨o,p⟩:=o;by_cases C:k<(nth m.U i).length
   ·have c:=ar C
    repeat'(first|refine gE ?_|with_reducible refine Bf.D (λa=>?_) (λa=>?_)|refine C8 (aI _ 0 _) ?_)
    all_goals first
     | exact Z0 (λz=>[B z]) ((q8 h (by unfold gY;rw[gG c (by unfold nZ;exact W0 ω)];rfl)).symm)
     | ((conv=>whnf);refine CD (k+1) ⟨ω,cX c p (by unfold nZ;exact O0 ω)⟩ ω ?_;(exact wB))
   have G:=ot ω p
   refine ZE ?_
   refine CF (ι:=Nat) (λb=>[(1,.G .box (aN.enc .S m)),(3,.G .one [I (m.U.length)]),(4,.G .one [I (bI m i)]),(5,.G .one [I ((i:Nat):Int)]),(25,.G .one [I (m.U.length)]),(26,.G .one [I ((i:Nat):Int)]),(55,.G .one (aG .S (nth m.g i))),(56,.G .one [I ((nth m.g i).length)]),(57,.G .one [I ((b:Nat):Int)])]) (λb=>b<=(nth m.g i).length/\((nth m.g i).take b).all Ru=true) (λb=>(nth m.g i).length - b) (0) ?_ ψ λb d=>?_
   ·exact wB
   obtain⟨d,ak2⟩:=d;by_cases lk2:b<(nth m.g i).length
   ·have c:=ar lk2
    repeat'(first|refine gE ?_|with_reducible refine Bf.D (λa=>?_) (λa=>?_))
    all_goals first
     | exact Z0 (λz=>[B z]) ((q8 h (by unfold gY;rw[gG c (by unfold Ru;exact W0 ω)];simp)).symm)
     | ((conv=>whnf);refine CD (b+1) ⟨ω,cX c ak2 (by unfold Ru;exact O0 ω)⟩ ω ?_;(exact wB))
   have ae2:=ot ω ak2;have e:bI m (i+1)=bI m i+((nth m.U i).length+(nth m.g i).length):=rfl
   refine ZE ?_
   (refine CD (i+1) ⟨ω,bV u (by grind [gY]),ω,ω⟩ ω ?_)
   rw[e];exact wB
  obtain rfl:i=m.U.length:=ω
  refine ZE ?_
  grind [yx]
 refine fO 82 [(20,15,[64,65,66,67,68,69,70,71,72,73,74,75,76,77,78])] Tryz.func78 rfl ?_
 repeat'(first|refine gP ?_|with_reducible (first|refine Bf.D (λa=>?_) (λa=>?_)|refine Bf.N (λa=>?_) (λa=>?_))|refine C8 (aI _ 1 4) ?_)
 all_goals first
  | exact Z0 (λz=>[B z]) ((yz t).symm)
  |(exfalso;omega)
def D6(h:dG s a=false):S2 (jh s a)=[I (-1),I (-1)]:=by
 unfold jh;rw[h];rfl
def xZ(h:dG s a=true):S2 (jh s a)=[I ((a - 16*s.R) / csz s.Z),I ((a - 16*s.R) % csz s.Z)]:=by
 unfold jh;rw[h];rfl
theorem tE(h:dG s a=true):bk s=true/\0<=(a - 16*s.R) / csz s.Z/\(a - 16*s.R) / csz s.Z<=15:=by
 unfold dG at h;simp only[I0,C0]at h;have b:=aL h.1
 grind [cW]
def oJ(b:i<sp.length)(h:dG (nth sp i) a=true)(c:∀(j:Nat)(z:aA),j<i->sp[j]? = some z->dG z a=false):denotes sp la a=qa i (nth sp i) a:=by
 unfold denotes;rw[x7 (pr:=(dG · a)) (ar b) h c]
def mP(b:sp.length<=n)(c:∀(j:Nat)(z:aA),j<n->sp[j]? = some z->dG z a=false)(d:i<la.length)(h:bQ (nth la i) a=true)(e:∀(j:Nat)(z:aD),j<i->la[j]? = some z->bQ z a=false) :
  denotes sp la a = ⟨3,i,0,a - 16*(nth la i).R⟩:=by
 unfold denotes;rw[Ei (pr:=(dG · a)) b c,x7 (pr:=(bQ · a)) (ar d) h e]
theorem yQ(b:sp.length<=n)(c:∀(j:Nat)(z:aA),j<n->sp[j]? = some z->dG z a=false)(d:la.length<=k)(e:∀(j:Nat)(z:aD),j<k->la[j]? = some z->bQ z a=false):denotes sp la a = ⟨0,0,0,0⟩:=by grind [Ei,denotes]
theorem oz(sp:List aA)(la:List aD)(a:Int)(d:dM sp)(e:ed la)(g:bx sp la=true)(C:kV a):zzA 362 false [.val none (bW .S sp),.val none (ch .S la),.val none [I a]] .agg (jF.enc .own (denotes sp la a)):=by
 have E:=d.1;have F:=e.1;have p:=mN sp la d e;rw[g]at p;refine fO 67 [] Tryz.func362 rfl ?_ (.inr (jF.enc_fr _))
 refine ZP ?_
 refine CF (ι:=Nat) (λi=>[(0,.G .one (bW .S sp)),(1,.G .one (ch .S la)),(2,.G .one [I (a)]),(6,.G .box ([I 0,I 0,I 0,I 0])),(7,.G .one [I ((i:Nat):Int)])]) (λi=>i<=sp.length/\∀(j:Nat)(z:aA),j<i->sp[j]? = some z->dG z a=false) (λi=>sp.length - i) (0) ?_ ψ λi q=>?_
 ·exact wB
 obtain⟨q,l⟩:=q;by_cases r:i<sp.length
 ·have h:=ar r
  have b:=wM (nth sp i) a C;cases c:dG (nth sp i) a with
  | false=>
   rw[D6 c]at b
   repeat'(first|refine gE ?_|with_reducible refine Bf.D (λo=>?_) (λo=>?_))
   (refine CD (i+1) ψ ω ?_;(exact wB))
  | true=>
   rw[xZ c]at b;obtain⟨G,H,J⟩:=tE c;have t:=jj (nth sp i).a6 ((a - 16*(nth sp i).R) / csz (nth sp i).Z) (fC G).2;cases u:bh (nth sp i).a6 ((a - 16*(nth sp i).R) / csz (nth sp i).Z)<;>rw[u]at t
   all_goals
    repeat'(first|refine gE ?_|with_reducible refine Bf.D (λo=>?_) (λo=>?_))
    all_goals(rw[oJ r c l];unfold qa;rw[u];rfl)
 refine ZE ?_
 refine CF (ι:=Nat) (λk=>[(1,.G .one (ch .S la)),(2,.G .one [I (a)]),(6,.G .box ([I 0,I 0,I 0,I 0])),(11,.G .one [I ((k:Nat):Int)])]) (λk=>k<=la.length/\∀(j:Nat)(z:aD),j<k->la[j]? = some z->bQ z a=false) (λk=>la.length - k) (0) ?_ ψ λk w=>?_
 ·exact wB
 obtain⟨w,y⟩:=w;by_cases B:k<la.length
 ·have h:=ar B
  have b:=rC (nth la k) a;cases c:bQ (nth la k) a<;>rw[c]at b
  ·refine ZE ?_
   (refine CD (k+1) ψ ω ?_;(exact wB))
  repeat'(first|refine gE ?_|refine C8 (vj (nth la k) a c) ?_)
  rw[mP (n:=i) ω l B c y];rfl
 refine ZE ?_
 rw[yQ (n:=i) (k:=k) ω l ω y];rfl
theorem lf(sp:List aA)(la:List aD)(a:Int)(e:dM sp)(g:ed la):zzA 235 false [.val none (bW .S sp),.val none (ch .S la),.val none [I a]] .agg (jF.enc .own (denotes sp la a)):=by
 have y:=e.1;have B:=g.1;refine fO 56 [] Tryz.func235 rfl ?_ (.inr (jF.enc_fr _))
 refine ZP ?_
 refine CF (ι:=Nat) (λi=>[(1,.G .one (ch .S la)),(2,.G .one [I (a)]),(6,.G .box ([I 0,I 0,I 0,I 0])),(14,.G .one (bW .S sp)),(15,.G .one [I (sp.length)]),(16,.G .one [I ((i:Nat):Int)])]) (λi=>i<=sp.length/\∀(j:Nat)(z:aA),j<i->sp[j]? = some z->dG z a=false) (λi=>sp.length - i) (0) ?_ ψ λi o=>?_
 ·exact wB
 obtain⟨o,h⟩:=o;by_cases p:i<sp.length
 ·have d:=ar p
  have b:=G5 (nth sp i) a;cases c:dG (nth sp i) a with
  | false=>
   rw[D6 c]at b
   repeat'(first|refine gE ?_|with_reducible refine Bf.D (λl=>?_) (λl=>?_))
   (refine CD (i+1) ψ ω ?_;(exact wB))
  | true=>
   rw[xZ c]at b;obtain⟨C,E,F⟩:=tE c;have q:=gU (nth sp i).a6 ((a - 16*(nth sp i).R) / csz (nth sp i).Z) (fC C).2;cases r:bh (nth sp i).a6 ((a - 16*(nth sp i).R) / csz (nth sp i).Z)<;>rw[r]at q
   all_goals
    repeat'(first|refine gE ?_|with_reducible refine Bf.D (λl=>?_) (λl=>?_))
    all_goals(rw[oJ p c h];unfold qa;rw[r];rfl)
 refine ZE ?_
 refine CF (ι:=Nat) (λk=>[(2,.G .one [I (a)]),(6,.G .box ([I 0,I 0,I 0,I 0])),(39,.G .one (ch .S la)),(40,.G .one [I (la.length)]),(41,.G .one [I ((k:Nat):Int)])]) (λk=>k<=la.length/\∀(j:Nat)(z:aD),j<k->la[j]? = some z->bQ z a=false) (λk=>la.length - k) (0) ?_ ψ λk t=>?_
 ·exact wB
 obtain⟨t,u⟩:=t;by_cases w:k<la.length
 ·have d:=ar w
  have b:=r8 (nth la k) a;cases c:bQ (nth la k) a<;>rw[c]at b
  ·refine ZE ?_
   (refine CD (k+1) ψ ω ?_;(exact wB))
  repeat'(first|refine gE ?_|refine C8 (vo (nth la k) a c) ?_)
  rw[mP (n:=i) ω h w c u];rfl
 refine ZE ?_
 rw[yQ (n:=i) (k:=k) ω h ω u];rfl
section
variable{α:Type}
def pk(ag:Option Nat)(e:α->List C)(pr:α->Bool)(xs:List α):List (Option Nat × List C)->Kd->List C->Prop:=λL k rcs=>∃x,x∈xs/\L=[(ag,e x)]/\k=.one/\rcs=[B (pr x)]
end
def wO(xs:List aE)(pr:aE->Bool)(n:xs.length<=9223372036854775807):zzA 487 false [.val none (bp .S xs),.fn (mg Tryz.prog (pk (some 2) (aE.enc .S) pr xs))] .one [I (cj pr xs)]:=by
 refine fO 19 [] Tryz.func487 rfl ?_
 refine ZP ?_
 refine CF (ι:=Nat) (λi=>[(0,.G .one (bp .S xs)),(1,.fv (mg Tryz.prog (pk (some 2) (aE.enc .S) pr xs))),(7,.G .one [I xs.length]),(8,.G .one [I (i:Nat)])]) (λi=>i<=xs.length/\∀(j:Nat)(z:aE),j<i->xs[j]? = some z->pr z=false) (λi=>xs.length - i) 0 ?_ ⟨X0 _,λj z h=>ω⟩ λi e=>?_
 ·exact wB
 obtain⟨e,b⟩:=e;by_cases c:i<xs.length
 ·obtain⟨y,a⟩ : ∃y,xs[i]? = some y:=⟨_,X2 c⟩
  repeat'(first|refine gE ?_|refine Fv.mk (k:=.one) (rcs:=[B (pr y)]) ⟨y,O2 a,rfl,rfl,rfl⟩ ?_|refine Bf.P (λl=>?_) (λl=>?_))
  ·exact Z0 (λz=>[I z]) (dw a ‹_› b).symm
  (conv=>whnf)
  refine CD (i+1) ⟨ω,λj z h d=>?_⟩ ω ?_
  ·rcases Nat.lt_or_ge j i with g|g
   ·exact b j z g d
   obtain rfl:j=i:=ω
   rw[a]at d;cases d;assumption
  exact wB
 refine ZE ?_
 exact Z0 (λz=>[I z]) (fg ω b).symm
theorem so(xs:List aE)(pr:aE->Bool)(a:xs.length<=9223372036854775807):zzA 376 false [.val none (bp .S xs),.fn (mg Tryz.prog (pk (some 2) (aE.enc .S) pr xs))] .one [B (xs.any pr)]:=by
 refine fO 9 [] Tryz.func376 rfl ?_
 repeat'(first|refine gP ?_|refine C8 (wO xs pr a) ?_)
 grind [lK]
def wG(r:aE)(page:Int):zzA 377 false [.val (some 2) (aE.enc .S r),.ptr [I page]] .one [B (wX page r)]:=by
 refine fO 17 [] Tryz.func377 rfl ?_
 repeat'(first|refine gP ?_|with_reducible refine Bf.D (λa=>?_) (λa=>?_)|refine CL rfl ?_)
 all_goals exact Z0 (λz=>[B z]) (by unfold wX;first|(rw[O0 (by assumption:r.At<=page)];simp;done)|(rw[W0 (by assumption:¬r.At<=page)];rfl))
def AX(xs:List aE)(page:Int)(a:xs.length<=9223372036854775807):zzA 228 false [.val none (bp .S xs),.val none [I page]] .one [B (xs.any (wX page))]:=by
 refine fO 8 [] Tryz.func228 rfl ?_
 repeat'(first|refine gP ?_|refine Cq.mk (pk (some 2) (aE.enc .S) (wX page) xs) (wG default page).has (λL k rcs b=>?_) ?_|refine C8 (so xs (wX page) a) ?_)
 ·obtain⟨x,-,rfl,rfl,rfl⟩:=b
  exact wG x page
 rfl
theorem wS(xs:List aQ)(pr:aQ->Bool)(g:xs.length<=9223372036854775807):zzA 549 false [.val none (cr .S xs),.fn (mg Tryz.prog (pk (some 3) (aQ.enc .S) pr xs))] .one [I (cj pr xs)]:=by
 refine fO 19 [] Tryz.func549 rfl ?_
 refine ZP ?_
 refine CF (ι:=Nat) (λi=>[(0,.G .one (cr .S xs)),(1,.fv (mg Tryz.prog (pk (some 3) (aQ.enc .S) pr xs))),(7,.G .one [I xs.length]),(8,.G .one [I (i:Nat)])]) (λi=>i<=xs.length/\∀(j:Nat)(z:aQ),j<i->xs[j]? = some z->pr z=false) (λi=>xs.length - i) 0 ?_ ψ λi b=>?_
 ·exact wB
 obtain⟨b,d⟩:=b;by_cases a:i<xs.length
 ·obtain⟨y,c⟩ : ∃y,xs[i]? = some y:=⟨_,X2 a⟩
  repeat'(first|refine gE ?_|refine Fv.mk (k:=.one) (rcs:=[B (pr y)]) ⟨y,O2 c,rfl,rfl,rfl⟩ ?_|refine Bf.P (λe=>?_) (λe=>?_))
  ·grind [dw]
  (conv=>whnf)
  refine CD (i+1) ψ ω ?_;exact wB
 refine ZE ?_
 exact Z0 (λz=>[I z]) (fg ω d).symm
theorem sE(xs:List aQ)(pr:aQ->Bool)(a:xs.length<=9223372036854775807):zzA 488 false [.val none (cr .S xs),.fn (mg Tryz.prog (pk (some 3) (aQ.enc .S) pr xs))] .one [B (xs.any pr)]:=by
 refine fO 9 [] Tryz.func488 rfl ?_
 repeat'(first|refine gP ?_|refine C8 (wS xs pr a) ?_)
 grind [lK]
theorem yP(xs:List aA)(pr:aA->Bool)(g:xs.length<=9223372036854775807):zzA 240 false [.val none (bW .S xs),.fn (mg Tryz.prog (pk (some 3) (aA.enc .S) pr xs))] .one [I (cj pr xs)]:=by
 refine fO 19 [] Tryz.func240 rfl ?_
 refine ZP ?_
 refine CF (ι:=Nat) (λi=>[(0,.G .one (bW .S xs)),(1,.fv (mg Tryz.prog (pk (some 3) (aA.enc .S) pr xs))),(7,.G .one [I xs.length]),(8,.G .one [I (i:Nat)])]) (λi=>i<=xs.length/\∀(j:Nat)(z:aA),j<i->xs[j]? = some z->pr z=false) (λi=>xs.length - i) 0 ?_ ψ λi b=>?_
 ·exact wB
 obtain⟨b,d⟩:=b;by_cases a:i<xs.length
 ·obtain⟨y,c⟩ : ∃y,xs[i]? = some y:=⟨_,X2 a⟩
  repeat'(first|refine gE ?_|refine Fv.mk (k:=.one) (rcs:=[B (pr y)]) ⟨y,O2 c,rfl,rfl,rfl⟩ ?_|refine Bf.P (λe=>?_) (λe=>?_))
  ·grind [dw]
  (conv=>whnf)
  refine CD (i+1) ψ ω ?_;exact wB
 refine ZE ?_
 exact Z0 (λz=>[I z]) (fg ω d).symm
theorem jZ(xs:List bi)(pr:bi->Bool)(g:xs.length<=9223372036854775807):zzA 88 false [.val none (nI .S xs),.fn (mg Tryz.prog (pk (some 4) (bi.enc .S) pr xs))] .one [I (cj pr xs)]:=by
 refine fO 19 [] Tryz.func88 rfl ?_
 refine ZP ?_
 refine CF (ι:=Nat) (λi=>[(0,.G .one (nI .S xs)),(1,.fv (mg Tryz.prog (pk (some 4) (bi.enc .S) pr xs))),(7,.G .one [I xs.length]),(8,.G .one [I (i:Nat)])]) (λi=>i<=xs.length/\∀(j:Nat)(z:bi),j<i->xs[j]? = some z->pr z=false) (λi=>xs.length - i) 0 ?_ ψ λi b=>?_
 ·exact wB
 obtain⟨b,d⟩:=b;by_cases a:i<xs.length
 ·obtain⟨y,c⟩ : ∃y,xs[i]? = some y:=⟨_,X2 a⟩
  repeat'(first|refine gE ?_|refine Fv.mk (k:=.one) (rcs:=[B (pr y)]) ⟨y,O2 c,rfl,rfl,rfl⟩ ?_|refine Bf.P (λe=>?_) (λe=>?_))
  ·grind [dw]
  (conv=>whnf)
  refine CD (i+1) ψ ω ?_;exact wB
 refine ZE ?_
 exact Z0 (λz=>[I z]) (fg ω d).symm
theorem vA(xs:List bi)(pr:bi->Bool)(a:xs.length<=9223372036854775807):zzA 233 false [.val none (nI .S xs),.fn (mg Tryz.prog (pk (some 4) (bi.enc .S) pr xs))] .one [B (xs.any pr)]:=by
 refine fO 9 [] Tryz.func233 rfl ?_
 repeat'(first|refine gP ?_|refine C8 (jZ xs pr a) ?_)
 grind [lK]
def Q9(a:k<=3):IntKind.i64.wrap (1*2 ^ min ((k:Nat):Int).toNat IntKind.i64.bits)=csz (k:Nat):=by
 obtain rfl|rfl|rfl|rfl:k=0\/k=1\/k=2\/k=3:=ω
 all_goals decide
theorem QR(a:k<=100):IntKind.u64.wrap (k:Nat)=(k:Nat):=by grind [Go.IntKind.wrap,Go.IntKind.bits]
theorem EP(a:k<=3)(h:csz (k:Nat)<z)(b:z<=8):k<=2:=by
 have c:csz ((3:Nat):Int)=8:=by decide
 grind
theorem yA(a:k<=3)(h1:1<=z)(b:k=0\/csz ((k - 1:Nat):Int)<z)(c:¬csz (k:Nat)<z):aS z=(k:Nat):=by
 have d:csz ((0:Nat):Int)=1:=by decide
 have e:csz ((1:Nat):Int)=2:=by decide
 have f:csz ((2:Nat):Int)=4:=by decide
 have g:csz ((3:Nat):Int)=8:=by decide
 unfold aS;obtain rfl|rfl|rfl|rfl:k=0\/k=1\/k=2\/k=3:=ω
 all_goals grind
def lh(z:Int):zzA 220 false [.val none [I z]] .one [I (aS z)]:=by
 refine fO 15 [] Tryz.func220 rfl ?_;by_cases c:1<=z/\z<=8
 ·repeat'(first|refine gE ?_|with_reducible refine Bf.D (λb=>?_) (λb=>?_)|refine C8 (aM z 1 8) ?_)
  refine CF (ι:=Nat) (λk=>[(0,.G .one [I (z)]),(3,.G .one [I ((k:Nat):Int)])]) (λk=>k<=3/\(k=0\/csz ((k - 1:Nat):Int)<z)) (λk=>4 - k) (0) ?_ ω λk a=>?_
  ·exact wB
  obtain⟨a,d⟩:=a
  repeat'(first|refine gP ?_|with_reducible refine Bf.D (λb=>?_) (λb=>?_)|refine CL (QR ω) ?_|refine CL (Q9 a) ?_|refine CN ω ?_)
  all_goals first
   | exact Z0 (λz=>[I z]) (yA a c.1 d (by assumption)).symm
   | ((conv=>whnf);refine CD (k+1) ⟨by have:=EP a (by assumption) c.2;omega,.inr (by simpa using (by assumption:csz (k:Nat)<z))⟩ (by have:=EP a (by assumption) c.2;omega) ?_;(exact wB))
 repeat'(first|refine gE ?_|with_reducible refine Bf.D (λb=>?_) (λb=>?_)|refine C8 (aM z 1 8) ?_)
 all_goals exact Z0 (λz=>[I z]) (by unfold aS;(repeat' split)<;>omega)
def lr(z:Int):zzA 64 false [.val none [I z]] .one [I (aS z)]:=by
 refine fO 14 [] Tryz.func64 rfl ?_;by_cases c:1<=z/\z<=8
 ·repeat'(first|refine gE ?_|with_reducible refine Bf.D (λa=>?_) (λa=>?_)|refine C8 (aI z 1 8) ?_)
  refine CF (ι:=Nat) (λk=>[(0,.G .one [I (z)]),(3,.G .one [I ((k:Nat):Int)])]) (λk=>k<=3/\(k=0\/csz ((k - 1:Nat):Int)<z)) (λk=>4 - k) (0) ?_ ω λk b=>?_
  ·exact wB
  obtain⟨b,d⟩:=b
  repeat'(first|refine gP ?_|with_reducible refine Bf.D (λa=>?_) (λa=>?_)|refine C8 (dl _) ?_)
  all_goals first
   | exact Z0 (λz=>[I z]) (yA b c.1 d (by assumption)).symm
   | ((conv=>whnf);refine CD (k+1) ⟨by have:=EP b (by assumption) c.2;omega,.inr (by simpa using (by assumption:csz (k:Nat)<z))⟩ (by have:=EP b (by assumption) c.2;omega) ?_;(exact wB))
 repeat'(first|refine gE ?_|with_reducible refine Bf.D (λa=>?_) (λa=>?_)|refine C8 (aI z 1 8) ?_)
 all_goals exact Z0 (λz=>[I z]) (by unfold aS;(repeat' split)<;>omega)
theorem tK(q:bt)(a:Int)(d:bt.sml q):zzA 359 false [.val (some 2) (bt.enc .S q),.val none [I a]] .one [B (q.q.any (eN a))]:=by
 have j:q.q.length<=1048576:=d.1;refine fO 21 [] Tryz.func359 rfl ?_
 refine ZP ?_
 refine CF (ι:=Nat) (λi=>[(1,.G .one [I (a)]),(2,.G .box (bt.enc .S q)),(5,.G .one [I ((i:Nat):Int)])]) (λi=>i<=q.q.length/\(q.q.take i).any (eN a)=false) (λi=>q.q.length - i) (0) ?_ ψ λi c=>?_
 ·exact wB
 obtain⟨c,e⟩:=c;by_cases g:i<q.q.length
 ·have b:=ar g
  repeat'(first|refine gE ?_|with_reducible refine Bf.E (λh=>?_) (λh=>?_))
  all_goals first
   | exact Z0 (λz=>[B z]) ((DV b (O0 (by assumption))).symm)
   | ((conv=>whnf);refine CD (i+1) ⟨ω,xM b e (W0 (by assumption))⟩ ω ?_;(exact wB))
 refine ZE ?_
 exact Z0 (λz=>[B z]) ψ
def jc(xs:List aQ)(i:Nat):quarCells xs (i+1)=quarCells xs i+csz (nth xs i).Z:=rfl
theorem Nc(k:Int):0<=csz k/\csz k<=8:=by grind [cW,csz]
theorem wH(xs:List aQ)(c:lV xs):zzA 360 false [.val none (cr .S xs)] .one [I (quarCells xs xs.length)]:=by
 have g:=c.1;refine fO 20 [] Tryz.func360 rfl ?_
 refine ZP ?_
 refine CF (ι:=Nat) (λi=>[(0,.G .one (cr .S xs)),(3,.G .one [I (quarCells xs i)]),(4,.G .one [I ((i:Nat):Int)])]) (λi=>i<=xs.length/\0<=quarCells xs i/\quarCells xs i<=8*i) (λi=>xs.length - i) (0) ?_ (⟨X0 _,by simp[quarCells],by simp[quarCells]⟩) λi b=>?_
 ·exact wB
 obtain⟨b,h,j⟩:=b;by_cases d:i<xs.length
 ·have e:=ar d
  have k:=Nc (nth xs i).Z;have a:=jc xs i
  repeat'(first|refine gE ?_|refine C8 (eg _) ?_)
  (refine CD (i+1) ω ω ?_)
  rw[a];exact wB
 refine ZE ?_
 grind
theorem qe(xs:List aQ)(c:lV xs):zzA 231 false [.val none (cr .S xs)] .one [I (quarCells xs xs.length)]:=by
 have g:=c.1;refine fO 19 [] Tryz.func231 rfl ?_
 refine ZP ?_
 refine CF (ι:=Nat) (λi=>[(3,.G .one [I (quarCells xs i)]),(6,.G .one (cr .S xs)),(7,.G .one [I (xs.length)]),(8,.G .one [I ((i:Nat):Int)])]) (λi=>i<=xs.length/\0<=quarCells xs i/\quarCells xs i<=8*i) (λi=>xs.length - i) (0) ?_ (⟨X0 _,by simp[quarCells],by simp[quarCells]⟩) λi b=>?_
 ·exact wB
 obtain⟨b,h,j⟩:=b;by_cases d:i<xs.length
 ·have e:=ar d
  have k:=Nc (nth xs i).Z;have a:=jc xs i
  repeat'(first|refine gE ?_|refine C8 (dl _) ?_)
  (refine CD (i+1) ω ω ?_)
  rw[a];exact wB
 refine ZE ?_
 grind
def BQ(a:aQ):zzA 358 false [.val (some 3) (aQ.enc .S a)] .one [B (decide (0<=a.Z/\a.Z<=3/\0<=a.Addr/\0<=a.b2))]:=by
 refine fO 16 [] Tryz.func358 rfl ?_
 repeat'(first|refine gP ?_|with_reducible refine Bf.D (λb=>?_) (λb=>?_)|refine C8 (aM _ 0 3) ?_)
 all_goals exact Z0 (λz=>[B z]) ((by first|(symm;exact W0 ω)|exact decide_eq_decide.2 ω))
variable{xs:List aQ}
theorem Ng(a:lV xs)(i:Nat):lV (xs.take i):=⟨by have:=a.1;grind,λ_ _=>trivial⟩
def qm(q:bt)(a:bt.sml q):zzA 213 false [.val (some 2) (bt.enc .S q)] .one [B (fQ q)]:=by
 have l:q.q.length<=1048576:=a.1;refine fO 57 [(5,29,[17,18,19,20,21,22,23,24,25,26,27,28,29,30,31,32,33,34,35,36,37,38,39,40,41,42,43,44,45]),(7,11,[46,47,48,49,50,51,52,53,54,55,56])] Tryz.func213 rfl ?_
 refine ZP ?_
 refine CF (ι:=Nat) (λi=>[(1,.G .box (bt.enc .S q)),(3,.G .one [I ((i:Nat):Int)])]) (λi=>i<=q.q.length/\df i (lA q.q)=true) (λi=>q.q.length - i) 0 ?_ ⟨X0 _,rfl⟩ λi e=>?_
 ·exact wB
 obtain⟨e,g⟩:=e;by_cases b:i<q.q.length
 ·have j:=ar b
  have h:=tK ⟨0,q.q.take i⟩ (nth q.q i).Addr (Ng a i);cases c:(q.q.take i).any (eN (nth q.q i).Addr)<;>rw[show(bt.mk 0 (q.q.take i)).q.any (eN (nth q.q i).Addr)=_ from c]at h
  all_goals
   repeat'(first|refine gE ?_|with_reducible refine Bf.D (λd=>?_) (λd=>?_)|refine C8 (BQ _) ?_|refine CK ω (aa (gx ω b)) ?_|refine CS i rfl (by simp;omega) (λr k=>by obtain⟨z,-,rfl⟩:=W4.1 k;rfl) (O4 ..) ?_)
   all_goals first
    | exact Z0 (λz=>[B z]) ((by symm;unfold fQ;rw[cB b (by unfold lA;first|(rw[c];simp;done)|(rw[W0 ω];rfl))];rfl))
    | ((conv=>whnf);refine CD (i+1) ⟨ω,bV g (by unfold lA;rw[c,O0 ω];rfl)⟩ ω ?_;(exact wB))
 obtain rfl:i=q.q.length:=ω
 repeat'(first|refine gE ?_|with_reducible refine Bf.D (λd=>?_) (λd=>?_)|refine C8 (aM _ 0 500) ?_|refine C8 (wH q.q a) ?_)
 all_goals exact Z0 (λz=>[B z]) ((by unfold fQ;rw[g];simp only[Bool.true_and];first|(symm;exact W0 ω)|exact decide_eq_decide.2 ω))
theorem vZ(b:aQ)(a:Int):zzA 489 false [.val (some 3) (aQ.enc .S b),.ptr [I a]] .one [B (eN a b)]:=by
 refine fO 8 [] Tryz.func489 rfl ?_
 refine ZP ?_
 grind [eN]
def Bv(xs:List aQ)(a:Int)(b:xs.length<=9223372036854775807):zzA 378 false [.val none (cr .S xs),.val none [I a]] .one [B (xs.any (eN a))]:=by
 refine fO 8 [] Tryz.func378 rfl ?_
 repeat'(first|refine gP ?_|refine Cq.mk (pk (some 3) (aQ.enc .S) (eN a) xs) (vZ default a).has (λL k rcs c=>?_) ?_|refine C8 (sE xs (eN a) b) ?_)
 ·obtain⟨y,-,rfl,rfl,rfl⟩:=c
  exact vZ y a
 rfl
def mC(xs:List aQ)(a:aQ):Bool:=decide (0<=a.Z/\a.Z<=3/\0<=a.Addr/\0<=a.b2/\(xs.length=0\/(nth xs (xs.length - 1)).b2<=a.b2))&&!xs.any (eN a.Addr)
theorem tH(xs:List aQ)(b:aQ)(g:xs.length<=1048576):zzA 230 false [.val none (cr .S xs),.val (some 3) (aQ.enc .S b)] .one [B (mC xs b)]:=by
 have c:=Bv xs b.Addr ω;cases d:xs.any (eN b.Addr)<;>rw[d]at c
 ·by_cases h:xs.length=0
  ·refine fO 40 [(3,15,[25,26,27,28,29,30,31,32,33,34,35,36,37,38,39])] Tryz.func230 rfl ?_
   repeat'(first|refine gP ?_|with_reducible (first|refine Bf.D (λa=>?_) (λa=>?_)|refine Bf.E (λa=>?_) (λa=>?_))|refine C8 (fF _) ?_)
   all_goals first
    | exact Z0 (λz=>[B z]) ((by unfold mC;rw[d,Bool.not_false,Bool.and_true];first|(symm;exact W0 ω)|(symm;exact O0 ω)|exact decide_eq_decide.2 ω))
    |(exfalso;omega)
    |trace_state
  have e:xs[((xs.length:Int) - 1).toNat]? = some (nth xs (xs.length - 1)):=by rw[show((xs.length:Int) - 1).toNat=xs.length - 1 by omega];grind [ar]
  refine fO 40 [(3,15,[25,26,27,28,29,30,31,32,33,34,35,36,37,38,39])] Tryz.func230 rfl ?_
  repeat'(first|refine gP ?_|with_reducible (first|refine Bf.D (λa=>?_) (λa=>?_)|refine Bf.E (λa=>?_) (λa=>?_))|refine C8 (fF _) ?_|refine CK ω (aa e) ?_)
  all_goals first
   | exact Z0 (λz=>[B z]) ((by unfold mC;rw[d,Bool.not_false,Bool.and_true];first|(symm;exact W0 ω)|(symm;exact O0 ω)|exact decide_eq_decide.2 ω))
   |(exfalso;omega)
   |trace_state
 refine fO 40 [(3,15,[25,26,27,28,29,30,31,32,33,34,35,36,37,38,39])] Tryz.func230 rfl ?_
 repeat'(first|refine gP ?_|with_reducible refine Bf.D (λa=>?_) (λa=>?_)|refine C8 (fF _) ?_)
 all_goals exact Z0 (λz=>[B z]) ((by unfold mC;rw[d];simp))
theorem JC(d:i<xs.length):mC (xs.take i) (nth xs i)=lA xs i:=by
 unfold mC lA;have a:(xs.take i).length=i:=ψ
 rw[a]
 congr 1
 refine decide_eq_decide.2 ?_;by_cases b:i=0
 ·subst b;simp
 have c:nth (xs.take i) (i - 1)=nth xs (i - 1):=by
  have:=ar (xs:=xs) (i:=i - 1) ω
  grind [b8]
 rw[c]
theorem qr(q:bt)(d:bt.sml q):zzA 79 false [.val (some 2) (bt.enc .S q)] .one [B (fQ q)]:=by
 have l:q.q.length<=1048576:=d.1;refine fO 32 [(4,7,[13,14,15,16,17,18,19]),(7,11,[21,22,23,24,25,26,27,28,29,30,31])] Tryz.func79 rfl ?_
 refine ZP ?_
 refine CF (ι:=Nat) (λi=>[(1,.G .box (bt.enc .S q)),(6,.G .one (cr .S q.q)),(7,.G .one [I (q.q.length)]),(8,.G .one [I ((i:Nat):Int)])]) (λi=>i<=q.q.length/\df i (lA q.q)=true) (λi=>q.q.length - i) 0 ?_ ⟨X0 _,rfl⟩ λi e=>?_
 ·exact wB
 obtain⟨e,g⟩:=e;by_cases a:i<q.q.length
 ·have h:=ar a
  have b:=tH (q.q.take i) (nth q.q i) ψ;rw[JC a]at b;cases c:lA q.q i<;>rw[c]at b
  all_goals
   repeat'(first|refine gE ?_|refine CS i rfl (by simp;omega) (λr j=>by obtain⟨z,-,rfl⟩:=W4.1 j;rfl) (O4 ..) ?_)
   all_goals first
    | exact Z0 (λz=>[B z]) ((by symm;unfold fQ;rw[cB a c];rfl))
    | ((conv=>whnf);refine CD (i+1) ⟨ω,bV g c⟩ ω ?_;(exact wB))
 obtain rfl:i=q.q.length:=ω
 repeat'(first|refine gE ?_|with_reducible refine Bf.D (λk=>?_) (λk=>?_)|refine C8 (aI _ 0 500) ?_|refine C8 (qe q.q d) ?_)
 all_goals exact Z0 (λz=>[B z]) ((by unfold fQ;rw[g];simp only[Bool.true_and];first|(symm;exact W0 ω)|exact decide_eq_decide.2 ω))
def j8(a:List Bool):Nat->Int
 | 0=>0
 | i+1=>j8 a i+(if nth a i then 1 else 0)
def cQ(f:aT):Int:=if cP f then j8 f.y f.y.length else 0
def Dx{a:List Bool}(h:nth a i=true):j8 a (i+1)=j8 a i+1:=by show j8 a i+(if nth a i then 1 else 0)=_;rw[h];rfl
def H7{a:List Bool}(h:nth a i=false):j8 a (i+1)=j8 a i:=by show j8 a i+(if nth a i then 1 else 0)=_;rw[h];simp
theorem xm(f:aT)(g:aT.sml f):zzA 25 false [.val (some 2) (aT.enc .S f)] .one [I (cQ f)]:=by
 have l:f.y.length<=1048576:=g.2;have b:=rK f g;cases h:cP f<;>rw[h]at b
 ·refine fO 24 [] Tryz.func25 rfl ?_
  refine ZP ?_
  refine CF (ι:=Nat) (λi=>[(1,.G .box (aT.enc .S f)),(3,.G .one [I ((0:Int))]),(4,.G .one [I ((i:Nat):Int)])]) (λi=>i=0) (λi=>i) (0) ?_ (rfl) λi c=>?_
  ·exact wB
  subst c
  repeat'(first|refine gP ?_|with_reducible refine Bf.D (λj=>?_) (λj=>?_))
  all_goals grind [cQ]
 refine fO 24 [] Tryz.func25 rfl ?_
 refine ZP ?_
 refine CF (ι:=Nat) (λi=>[(1,.G .box (aT.enc .S f)),(3,.G .one [I (j8 f.y i)]),(4,.G .one [I ((i:Nat):Int)])]) (λi=>i<=f.y.length/\0<=j8 f.y i/\j8 f.y i<=i) (λi=>f.y.length - i) (0) ?_ (⟨X0 _,by simp[j8],by simp[j8]⟩) λi c=>?_
 ·exact wB
 obtain⟨c,n,o⟩:=c;by_cases k:i<f.y.length
 ·have d:=ar k
  cases e:nth f.y i<;>rw[e]at d
  ·have a:=H7 e
   refine ZE ?_
   (refine CD (i+1) ω ω ?_)
   rw[a];exact wB
  have a:=Dx e
  refine ZE ?_
  (refine CD (i+1) ω ω ?_)
  rw[a];exact wB
 obtain rfl:i=f.y.length:=ω
 refine ZE ?_
 grind [cQ]
theorem wU(f:aT)(e:aT.sml f):zzA 93 false [.val (some 2) (aT.enc .S f)] .one [I (cQ f)]:=by
 have k:f.y.length<=1048576:=e.2;have b:=mR f e;cases g:cP f<;>rw[g]at b
 ·refine fO 21 [] Tryz.func93 rfl ?_
  refine ZP ?_
  all_goals exact Z0 (λz=>[I z]) (by unfold cQ;rw[g];rfl)
 refine fO 21 [] Tryz.func93 rfl ?_
 refine ZP ?_
 refine CF (ι:=Nat) (λi=>[(3,.G .one [I (j8 f.y i)]),(10,.G .one (vN .S f.y)),(11,.G .one [I (f.y.length)]),(12,.G .one [I ((i:Nat):Int)])]) (λi=>i<=f.y.length/\0<=j8 f.y i/\j8 f.y i<=i) (λi=>f.y.length - i) (0) ?_ (⟨X0 _,by simp[j8],by simp[j8]⟩) λi h=>?_
 ·exact wB
 obtain⟨h,l,n⟩:=h;by_cases j:i<f.y.length
 ·have c:=ar j
  cases d:nth f.y i<;>rw[d]at c
  ·have a:=H7 d
   refine ZE ?_
   (refine CD (i+1) ω ω ?_)
   rw[a];exact wB
  have a:=Dx d
  refine ZE ?_
  (refine CD (i+1) ω ω ?_)
  rw[a];exact wB
 obtain rfl:i=f.y.length:=ω
 refine ZE ?_
 grind [cQ]
def wT(h:ac):Prop:=aO.sml h.H.F.Q
def iC(h:ac)(p:Int)(a:wT h):zzA 355 false [.val (some 24) (ac.enc .S h),.val none [I p]] .one (aG .own (aV h p)):=by
 refine fO 23 [] Tryz.func355 rfl ?_ (.inr (bO _))
 repeat'((conv=>whnf);first|with_reducible (first|refine Lm ?_|refine Wm ω ?_|refine Bf.E (λb=>?_) (λb=>?_)|refine Bn ?_|refine jo.wk rfl ?_)|refine Bt ?_|refine Bu ?_|refine C8 (dh h.H.F.Q p a) ?_|refine C8 (gW h.H.F.Q _ a) ?_)
 all_goals(unfold aV;first|rw[CC (by assumption)]|rw[CB (by assumption)])
 all_goals exact⟨rfl,trivial⟩
def kL(h:ac)(p:Int)(a:wT h):zzA 227 false [.val (some 24) (ac.enc .S h),.val none [I p]] .one (aG .own (aV h p)):=by
 refine fO 22 [] Tryz.func227 rfl ?_ (.inr (bO _))
 repeat'((conv=>whnf);first|with_reducible (first|refine Lm ?_|refine Wm ω ?_|refine Bf.E (λb=>?_) (λb=>?_)|refine Bn ?_|refine jo.wk rfl ?_)|refine Bt ?_|refine Bu ?_|refine C8 (cN h.H.F.Q p a) ?_|refine C8 (lB h.H.F.Q _ a) ?_)
 all_goals(unfold aV;first|rw[CC (by assumption)]|rw[CB (by assumption)])
 all_goals exact⟨rfl,trivial⟩
theorem eX(k:ah)(p:Int)(a:aO.sml k.F.Q):zzA 127 false [.val (some 5) (ah.enc .S k),.val none [I p]] .one [B (decide ((ax k.F.Q p).k≠0))]:=by
 refine fO 12 [] Tryz.func127 rfl ?_
 repeat'(first|refine gP ?_|refine C8 (cN k.F.Q p a) ?_)
 grind
def qp(z:Int):zzA 83 false [.val none [I z]] .one [B (decide (0<=z/\z<=1073741823))]:=by
 refine fO 5 [] Tryz.func83 rfl ?_
 repeat'(first|refine gP ?_|refine C8 (aI z 0 1073741823) ?_)
 rfl
theorem kj(h:ac)(p:Int)(g:h.K.length<=1048576):zzA 219 false [.val (some 24) (ac.enc .S h),.val none [I p]] .one [I (gH h p)]:=by
 refine fO 22 [] Tryz.func219 rfl ?_
 refine ZP ?_
 refine CF (ι:=Nat) (λi=>[(1,.G .one [I (p)]),(2,.G .box (ac.enc .S h)),(5,.G .one [I ((i:Nat):Int)])]) (λi=>i<=h.K.length/\∀(j:Nat)(z:aA),j<i->h.K[j]? = some z->nj p z=false) (λi=>h.K.length - i) (0) ?_ ψ λi c=>?_
 ·exact wB
 obtain⟨c,a⟩:=c;by_cases d:i<h.K.length
 ·have b:=ar d
  repeat'(first|refine gE ?_|with_reducible refine Bf.E (λe=>?_) (λe=>?_))
  all_goals first
   | exact Z0 (λz=>[I z]) (dw b (O0 (by assumption)) a).symm
   | ((conv=>whnf);refine CD (i+1) ⟨ω,ep b (W0 (by assumption)) a⟩ ω ?_;(exact wB))
 refine ZE ?_
 exact Z0 (λz=>[I z]) (fg ω a).symm
theorem Dr(s:aA)(p:Int):zzA 241 false [.val (some 3) (aA.enc .S s),.ptr [I p]] .one [B (nj p s)]:=by
 refine fO 8 [] Tryz.func241 rfl ?_
 refine ZP ?_
 grind [nj]
def we(h:ac)(p:Int)(b:h.K.length<=1048576):zzA 85 false [.val (some 24) (ac.enc .S h),.val none [I p]] .one [I (gH h p)]:=by
 refine fO 9 [] Tryz.func85 rfl ?_
 repeat'(first|refine gP ?_|refine Cq.mk (pk (some 3) (aA.enc .S) (nj p) h.K) (Dr default p).has (λL k rcs a=>?_) ?_|refine C8 (yP h.K (nj p) ω) ?_)
 ·obtain⟨y,-,rfl,rfl,rfl⟩:=a
  exact Dr y p
 rfl
def flight1(m:aN)(i:Nat):List Int:=(m.U.take i).flatMap λl=>l.map (·.Addr)
def flight2(m:aN)(i:Nat):List Int:=(m.g.take i).flatten
theorem oB{l:List cJ}(h:m.U[i]? = some l):flight1 m (i+1)=flight1 m i++l.map (·.Addr):=by grind [X5,flight1]
theorem nQ(h:m.g[i]? = some l):flight2 m (i+1)=flight2 m i++l:=by grind [X5,flight2]
theorem qb(h:bB m=true):aU m=flight1 m m.U.length++flight2 m m.g.length:=by grind [aU,flight1,flight2]
theorem wD(h:bB m=false):aU m=[]:=by grind [aU]
theorem sR(h:bB m=true):1<=m.U.length/\m.U.length<=4/\m.g.length=m.U.length:=by grind [bB]
def G4 : ∀r∈l.map (rI .S),r.length=1:=by
 intro r a;obtain⟨z,-,rfl⟩:=W4.1 a;rfl
def Kq : ∀r∈l.map (rI .S),bn r=true:=by
 intro r a;obtain⟨z,-,rfl⟩:=W4.1 a;rfl
theorem AK(m:aN)(g:aN.sml m):zzA 35 false [.val (some 2) (aN.enc .S m)] .one (aG .own (aU m)):=by
 have h:=mE m g;cases d:bB m<;>rw[d]at h
 ·refine fO 56 [] Tryz.func35 rfl ?_ (.inr (bO _))
  repeat'((conv=>whnf);first|with_reducible (first|refine Lm ?_|refine Wm ω ?_|refine Bn ?_|refine jo.wk rfl ?_)|refine Bt ?_|refine Bu ?_|refine C8 h ?_)
  all_goals(rw[wD d];exact⟨rfl,trivial⟩)
 obtain⟨D,E,F⟩:=sR d;refine fO 56 [] Tryz.func35 rfl ?_ (.inr (bO _))
 refine ZP ?_
 refine CF (ι:=Nat × List Int) (λi=>[(1,.G .box (aN.enc .S m)),(3,.G .one (aG .own i.2)),(4,.G .one [I ((i.1:Nat):Int)])]) (λi=>i.1<=m.U.length/\i.2=flight1 m i.1/\i.2.length<=1048576*i.1) (λi=>m.U.length - i.1) ((0,[])) ?_ (⟨X0 _,rfl,X0 _⟩) λi j=>?_
 ·exact wB
 obtain⟨i,S⟩:=i;obtain⟨j,p,t⟩:=j;simp only at j p t |-;by_cases q:i<m.U.length
 ·have l:=ar q
  have u:(nth m.U i).length<=1048576:=(g.1.2 _ (au q)).1
  refine ZE ?_
  refine CF (ι:=Nat × List Int) (λk=>[(1,.G .box (aN.enc .S m)),(3,.G .one (aG .own k.2)),(4,.G .one [I ((i:Nat):Int)]),(5,.G .one [I ((k.1:Nat):Int)])]) (λk=>k.1<=(nth m.U i).length/\k.2=S++((nth m.U i).take k.1).map (·.Addr)) (λk=>(nth m.U i).length - k.1) ((0,S)) ?_ ψ λk b=>?_
  ·exact wB
  obtain⟨k,c⟩:=k;obtain⟨b,a⟩:=b;simp only at b a |-;have w:c.length=S.length+k:=ψ
  by_cases e:k<(nth m.U i).length
  ·have n:=ar e
   repeat'(first|refine gE ?_|refine CT cR (λr y=>by rw[V1.1 y];rfl) (by simp[bn,eP]) (by simp;omega) (by show _*8<=_;simp;omega) rfl ?_)
   ((conv=>whnf)
    refine CD (k+1,c++[(nth (nth m.U i) k).Addr]) ⟨(by simp only;omega),(by grind [X5])⟩ (by simp only;omega) ?_
    (repeat'(first|exact trivial|rfl|exact CJ rfl (CJ (Z0 (C.s dA.own) (by simp[rI])) trivial)|refine CJ ?_ ?_)))
  obtain rfl:k=(nth m.U i).length:=ω
  rw[I5]at a
  refine ZE ?_
  (refine CD (i+1,c) ⟨(by simp only;omega),(by grind [oB]),(by simp only;omega)⟩ (by simp only;omega) ?_;(exact wB))
 obtain rfl:i=m.U.length:=ω
 refine ZE ?_
 refine CF (ι:=Nat × List Int) (λk=>[(1,.G .box (aN.enc .S m)),(3,.G .one (aG .own k.2)),(6,.G .one [I ((k.1:Nat):Int)])]) (λk=>k.1<=m.g.length/\k.2=S++flight2 m k.1/\k.2.length<=S.length+1048576*k.1) (λk=>m.g.length - k.1) ((0,S)) ?_ (⟨X0 _,by simp[flight2],by simp⟩) λk b=>?_
 ·exact wB
 obtain⟨k,c⟩:=k;obtain⟨b,a,o⟩:=b;simp only at b a o |-;by_cases e:k<m.g.length
 ·have n:=ar e
  have B:(nth m.g k).length<=1048576:=g.2.2 _ (au e)
  repeat'(first|refine gE ?_|refine CT cR G4 (λ_=>Kq) (by simp;omega) (by show _*8<=_;simp;omega) rfl ?_)
  ((conv=>whnf)
   refine CD (k+1,c++nth m.g k) ⟨(by simp only;omega),(by grind [nQ]),ψ⟩ (by simp only;omega) ?_
   (repeat'(first|exact trivial|rfl|exact CJ rfl (CJ (Z0 (C.s dA.own) (by simp[rI])) trivial)|refine CJ ?_ ?_)))
 obtain rfl:k=m.g.length:=ω
 refine ZE ?_
 rw[qb d,<-p,<-a];rfl
theorem A4(m:aN)(g:aN.sml m):zzA 237 false [.val (some 2) (aN.enc .S m)] .one (aG .own (aU m)):=by
 have h:=m9 m g;cases d:bB m<;>rw[d]at h
 ·refine fO 46 [] Tryz.func237 rfl ?_ (.inr (bO _))
  repeat'((conv=>whnf);first|with_reducible (first|refine Lm ?_|refine Wm ω ?_|refine Bn ?_|refine jo.wk rfl ?_)|refine Bt ?_|refine Bu ?_|refine C8 h ?_)
  all_goals(rw[wD d];exact⟨rfl,trivial⟩)
 obtain⟨D,E,F⟩:=sR d;refine fO 46 [] Tryz.func237 rfl ?_ (.inr (bO _))
 refine ZP ?_
 refine CF (ι:=Nat × List Int) (λi=>[(1,.G .box (aN.enc .S m)),(3,.G .one (aG .own i.2)),(15,.G .one (xQ .S m.U)),(16,.G .one [I (m.U.length)]),(17,.G .one [I ((i.1:Nat):Int)])]) (λi=>i.1<=m.U.length/\i.2=flight1 m i.1/\i.2.length<=1048576*i.1) (λi=>m.U.length - i.1) ((0,[])) ?_ (⟨X0 _,rfl,X0 _⟩) λi j=>?_
 ·exact wB
 obtain⟨i,S⟩:=i;obtain⟨j,o,q⟩:=j;simp only at j o q |-;by_cases p:i<m.U.length
 ·have t:=ar p
  have u:(nth m.U i).length<=1048576:=(g.1.2 _ (au p)).1
  refine ZE ?_
  refine CF (ι:=Nat × List Int) (λk=>[(1,.G .box (aN.enc .S m)),(3,.G .one (aG .own k.2)),(15,.G .one (xQ .S m.U)),(16,.G .one [I (m.U.length)]),(17,.G .one [I ((i:Nat):Int)]),(21,.G .one (bJ .S (nth m.U i))),(22,.G .one [I ((nth m.U i).length)]),(23,.G .one [I ((k.1:Nat):Int)])]) (λk=>k.1<=(nth m.U i).length/\k.2=S++((nth m.U i).take k.1).map (·.Addr)) (λk=>(nth m.U i).length - k.1) ((0,S)) ?_ ψ λk b=>?_
  ·exact wB
  obtain⟨k,c⟩:=k;obtain⟨b,a⟩:=b;simp only at b a |-;have w:c.length=S.length+k:=ψ
  by_cases e:k<(nth m.U i).length
  ·have l:=ar e
   repeat'(first|refine gE ?_|refine CT cR (λr y=>by rw[V1.1 y];rfl) (by simp[bn,eP]) (by simp;omega) (by show _*8<=_;simp;omega) rfl ?_)
   ((conv=>whnf)
    refine CD (k+1,c++[(nth (nth m.U i) k).Addr]) ⟨(by simp only;omega),(by grind [X5])⟩ (by simp only;omega) ?_
    (repeat'(first|exact trivial|rfl|exact CJ rfl (CJ (Z0 (C.s dA.own) (by simp[rI])) trivial)|refine CJ ?_ ?_)))
  obtain rfl:k=(nth m.U i).length:=ω
  rw[I5]at a
  refine ZE ?_
  (refine CD (i+1,c) ⟨(by simp only;omega),(by grind [oB]),(by simp only;omega)⟩ (by simp only;omega) ?_;(exact wB))
 obtain rfl:i=m.U.length:=ω
 refine ZE ?_
 refine CF (ι:=Nat × List Int) (λk=>[(3,.G .one (aG .own k.2)),(35,.G .one (jV .S m.g)),(36,.G .one [I (m.g.length)]),(37,.G .one [I ((k.1:Nat):Int)])]) (λk=>k.1<=m.g.length/\k.2=S++flight2 m k.1/\k.2.length<=S.length+1048576*k.1) (λk=>m.g.length - k.1) ((0,S)) ?_ (⟨X0 _,by simp[flight2],by simp⟩) λk b=>?_
 ·exact wB
 obtain⟨k,c⟩:=k;obtain⟨b,a,n⟩:=b;simp only at b a n |-;by_cases e:k<m.g.length
 ·have l:=ar e
  have B:(nth m.g k).length<=1048576:=g.2.2 _ (au e)
  repeat'(first|refine gE ?_|refine CT cR G4 (λ_=>Kq) (by simp;omega) (by show _*8<=_;simp;omega) rfl ?_)
  ((conv=>whnf)
   refine CD (k+1,c++nth m.g k) ⟨(by simp only;omega),(by grind [nQ]),ψ⟩ (by simp only;omega) ?_
   (repeat'(first|exact trivial|rfl|exact CJ rfl (CJ (Z0 (C.s dA.own) (by simp[rI])) trivial)|refine CJ ?_ ?_)))
 obtain rfl:k=m.g.length:=ω
 refine ZE ?_
 rw[qb d,<-o,<-a];rfl
def tbl(h:ac):aO:=h.H.F.Q
def eO(h:ac):Nat:=h.H.F.Q.O.length
def xN(xs:List aA)(i:Nat):Bool:=decide (i=0\/(nth xs (i - 1)).R<(nth xs i).R)
def yB(xs:List aD)(i:Nat):Bool:=decide (i=0\/(nth xs (i - 1)).R<(nth xs i).R)
def yU(h:ac)(l:aD)(k:Nat):Bool:=decide ((aV h (l.R+(k:Nat))).length=1)
def uz(h:ac)(i:Nat):Bool:=yB h.J i&&df (nth h.J i).w.toNat (yU h (nth h.J i))
def xn(h:ac)(p:Nat):Bool:=decide ((nth (tbl h).O p).k≠0↔(p:Int)∈pgs h.K h.J)&&(decide ((nth (tbl h).O p).k≠0) != h.a.any (wX (p:Nat)))
def pages0(h:ac):Bool:=((df h.K.length (xN h.K)&&df h.J.length (uz h))&&(pgs h.K h.J).all λp=>decide (p<eO h))&&df (eO h) (xn h)
def mX(h:ac)(i:Nat)(q:Int):Bool:=decide (gH h q=(i:Nat)) || (decide (0<=gH h q)&&meshable (nth h.K i) (nth h.K (gH h q).toNat))
def w6(h:ac):Bool:=df h.K.length λi=>(aV h (nth h.K i).R).all (mX h i)
def ni(h:ac)(i j:Nat):Bool:=decide ((ax (tbl h) (nth h.K i).R).e≠(ax (tbl h) (nth h.K j).R).e) || meshable (nth h.K i) (nth h.K j)
def qu(h:ac):Bool:=df h.K.length λi=>df i (ni h i)
def ic(z:Int)(o:bi):Bool:=decide (o.Id=z)
def lw(h:ac)(o:bi):Bool:=
 let w:=denotes h.K h.J o.Addr
 decide (w.c5=0)&&((decide (w.b0=1)&&decide ((nth h.K w.c4.toNat).Z=aS o.a1)) || (decide (w.b0=3)&&decide ((nth h.J w.c4.toNat).a1=o.a1)))
def i9(a:Int)(h:ac)(i:Nat):Bool:=decide ((i=0\/(nth h.M (i - 1)).Addr<(nth h.M i).Addr)/\1<=(nth h.M i).Id/\(nth h.M i).Id<=a/\0<=(nth h.M i).a0/\(nth h.M i).a0<=h.T.length - 1)
def objAt(a:Int)(h:ac)(i:Nat):Bool:=(i9 a h i&&!(h.M.take i).any (ic (nth h.M i).Id))&&lw h (nth h.M i)
def gt(h:ac):Bool:=df h.M.length (objAt (IntKind.i64.wrap (h.o - 1)) h)
def dx(h:ac)(a c:Int):Bool:=
 let w:=denotes h.K h.J a
 (decide (w.b0=1)&&decide (w.c5=0))&&(decide (c<0) || decide ((nth h.K w.c4.toNat).Z=c))
def t7(h:ac)(c:aF)(k:Nat):Bool:=(nth c.X k).all λa=>dx h a (k:Nat)
def fw(h:ac)(c:aF):Bool:=df c.X.length (t7 h c)
def iw(h:ac)(x:aQ):Bool:=dx h x.Addr x.Z
def l7(h:ac)(a:Int):Bool:=dx h a (-1)
def cH(h:ac):List Int:=h.T.flatMap λc=>c.X.flatten
def kf(h:ac):Bool:=((h.T.all (fw h))&&h.a3.q.all (iw h))&&(aU h.j).all (l7 h)
def holders(h:ac):List Int:=((h.M.map (·.Addr)++cH h)++h.a3.q.map (·.Addr))++aU h.j
def kK(sp:List aA)(la:List aD)(a:Nat):Bool:=
 let w:=denotes sp la (a:Nat)
 decide (w.c5=0)&&(decide (w.b0=1) || decide (w.b0=3))
def m7(sp:List aA)(la:List aD)(n:Nat):List Int:=((List.range n).filter (kK sp la)).map λ(i:Nat)=>(i:Int)
def kW(sp:List aA)(la:List aD):List Int:=m7 sp la 512
def kG(h:ac):Bool:=(kf h&&decide (holders h).Nodup)&&decide ((holders h).length=(kW h.K h.J).length)
def mD(h:ac):Bool:=h.a3.q.all λx=>decide (x.b2<=h.a8)
def cg(h:ac):Bool:=decide (0<=h.b5/\h.b5<=1073741823/\0<=h.a8/\h.a8<=1000000/\0<=h.b7/\h.b7<=1000/\1<=h.o/\h.o<=1000000)
def sX(h:ac):Bool:=if h.a2 then(jA h.a5&&decide (0<=gH h h.a5.b.a7))&&decide (0<=gH h h.a5.b.a9) else u6 h.a5
def mU(h:ac):Bool:=((aJ h.H&&bF (eO h) h.a)&&bx h.K h.J)&&pages0 h
set_option maxHeartbeats 8000000
theorem eZ(h:bx sp la=true):sp.all bk=true/\la.all bZ=true/\(pgs sp la).Nodup:=by grind [bx]
def QP{α:Type}[Inhabited α]{xs:List α}{p:α->Bool}(h:xs.all p=true)(a:i<xs.length):p (nth xs i)=true:=C4.1 h _ (au a)
variable{h:ac}
theorem FR(h1:df h.K.length (xN h.K)=false):pages0 h=false:=by grind [pages0]
theorem ux(h1:df h.J.length (uz h)=false):pages0 h=false:=by grind [pages0]
theorem Gm(h1:p∈pgs h.K h.J)(a:¬p<eO h):pages0 h=false:=by grind [pages0]
theorem Hy(h1:df (eO h) (xn h)=false):pages0 h=false:=by grind [pages0]
theorem xU(h1:df h.K.length (xN h.K)=true)(a:df h.J.length (uz h)=true)(b:∀p∈pgs h.K h.J,p<eO h)(c:df (eO h) (xn h)=true):pages0 h=true:=by grind [pages0]
theorem PE(h1:yB h.J i=false):uz h i=false:=by grind [uz]
theorem P1(a:k<(nth h.J i).w.toNat)(h1:yU h (nth h.J i) k=false):uz h i=false:=by grind [cB,uz]
theorem FY(h1:yB h.J i=true)(a:df (nth h.J i).w.toNat (yU h (nth h.J i))=true):uz h i=true:=by grind [uz]
def fG(h:ac)(p:Int):(aV h p).length<=eO h:=by
 unfold aV;split
 ·simp
 exact su ..
theorem vM(h:bx sp la=true){l:aD}(a:la[i]? = some l):1<=l.w/\l.w<=63/\0<=l.R/\l.R<=31:=
 aX (C4.1 (eZ h).2.1 l ψ)
theorem FH(h:ac)(y:dM h.K)(E:ed h.J)(g:wT h)(F:gc h.a)(l:bx h.K h.J=true):zzA 211 false [.val (some 24) (ac.enc .S h)] .one [B (pages0 h)]:=by
 have Y:=y.1;have Z:=E.1;have hl3:eO h<=1048576:=g.1;have hl4:=F.1;refine fO 144 [(7,18,[28,29,30,31,32,33,34,35,36,37,38,39,40,41,42,43,44,45]),(13,18,[62,63,64,65,66,67,68,69,70,71,72,73,74,75,76,77,78,79])] Tryz.func211 rfl ?_
 refine ZP ?_
 refine CF (ι:=Nat × List Int) (λi=>[(1,.G .box (ac.enc .S h)),(3,.G .box (aO.enc .S (tbl h))),(4,.G .one [I (eO h)]),(5,.G .one (aG .own i.2)),(6,.G .one [I ((i.1:Nat):Int)])]) (λi=>i.1<=h.K.length/\i.2=(h.K.take i.1).map (·.R)/\df i.1 (xN h.K)=true) (λi=>h.K.length - i.1) ((0,[])) ?_ (⟨X0 _,rfl,rfl⟩) λi G=>?_
 ·exact wB
 obtain⟨i,S⟩:=i;obtain⟨G,H,J⟩:=G;simp only at G H J |-;have hSl:S.length=i:=ψ
 by_cases K:i<h.K.length
 ·have b:=ar K
  repeat'(first|refine gE ?_|with_reducible refine Bf.D (λa=>?_) (λa=>?_)|refine CK ω (aa (gx ω K)) ?_|refine CT cR (λr n=>by rw[V1.1 n];rfl) (by simp[bn,eP]) (by simp;omega) (by simp only[I1];exact xi (by simp;omega) (by decide)) rfl ?_)
  all_goals first
   | exact Z0 (λz=>[B z]) ((FR (cB K (W0 ω))).symm)
   | ((conv=>whnf)
      refine CD (i+1,S++[(nth h.K i).R]) ⟨(by simp only;omega),(by simp only;rw[H,X5,b];simp),bV J (O0 ω)⟩ (by simp only;omega) ?_
      (repeat'(first|exact trivial|rfl|exact CJ rfl (CJ (Z0 (C.s dA.own) (by simp[rI])) trivial)|refine CJ ?_ ?_)))
 obtain rfl:i=h.K.length:=ω
 rw[I5]at H
 refine ZE ?_
 refine CF (ι:=Nat × List Int) (λk=>[(1,.G .box (ac.enc .S h)),(3,.G .box (aO.enc .S (tbl h))),(4,.G .one [I (eO h)]),(5,.G .one (aG .own k.2)),(7,.G .one [I ((k.1:Nat):Int)])]) (λk=>k.1<=h.J.length/\k.2=pgs h.K (h.J.take k.1)/\df k.1 (uz h)=true/\k.2.length<=1048576+64*k.1) (λk=>h.J.length - k.1) ((0,S)) ?_ (⟨X0 _,by grind [pgs],rfl,by simp only;omega⟩) λk L=>?_
 ·exact wB
 obtain⟨k,S2⟩:=k;obtain⟨L,c,M,O⟩:=L;simp only at L c M O |-;by_cases u:k<h.J.length
 ·have b:=ar u
  have hpg:=vM l b
  repeat'(first|refine gE ?_|with_reducible refine Bf.D (λa=>?_) (λa=>?_)|refine CK ω (aa (gx ω u)) ?_)
  all_goals first
   | exact Z0 (λz=>[B z]) ((ux (cB u (PE (W0 ω)))).symm)
   |have e:yB h.J k=true:=O0 ω
    (conv=>whnf)
    refine CF (ι:=Nat × List Int) (λq=>[(1,.G .box (ac.enc .S h)),(3,.G .box (aO.enc .S (tbl h))),(4,.G .one [I (eO h)]),(5,.G .one (aG .own q.2)),(7,.G .one [I ((k:Nat):Int)]),(8,.G .one [I ((q.1:Nat):Int)])]) (λq=>q.1<=(nth h.J k).w.toNat/\q.2=S2++lpgs (nth h.J k) q.1/\df q.1 (yU h (nth h.J k))=true) (λq=>(nth h.J k).w.toNat - q.1) ((0,S2)) ?_ (⟨X0 _,by simp[lpgs],rfl⟩) λq a=>?_
    ·exact wB
    obtain⟨q,Q⟩:=q;obtain⟨R,d,o⟩:=a;simp only at R d o |-;have U:Q.length=S2.length+q:=by rw[d,X3,F5]
    by_cases w:q<(nth h.J k).w.toNat
    ·have hfl:=fG h ((nth h.J k).R+(q:Nat))
     repeat'(first|refine gE ?_|with_reducible refine Bf.N (λa=>?_) (λa=>?_)|refine C8 (iC h _ g) ?_|refine CT cR (λr n=>by rw[V1.1 n];rfl) (by simp[bn,eP]) (by simp;omega) (by show _*8<=_;simp;omega) rfl ?_)
     all_goals first
      | exact Z0 (λz=>[B z]) ((ux (cB u (P1 w (W0 ω)))).symm)
      | ((conv=>whnf)
         refine CD (q+1,Q++[(nth h.J k).R+(q:Nat)]) ⟨(by simp only;omega),(by simp only;rw[d,lI,Y5]),bV o (O0 ω)⟩ (by simp only;omega) ?_
         (repeat'(first|exact trivial|rfl|exact CJ rfl (CJ (Z0 (C.s dA.own) (by simp[rI])) trivial)|refine CJ ?_ ?_)))
    obtain rfl:q=(nth h.J k).w.toNat:=ω
    refine ZE ?_
    (refine CD (k+1,Q) ⟨(by simp only;omega),(by simp only;rw[d,c,<-pA _ b]),bV M (FY e o),(by simp only;omega)⟩ (by simp only;omega) ?_;(exact wB))
 obtain rfl:k=h.J.length:=ω
 rw[I5]at c
 refine ZE ?_
 refine CF (ι:=Nat) (λq=>[(1,.G .box (ac.enc .S h)),(3,.G .box (aO.enc .S (tbl h))),(4,.G .one [I (eO h)]),(5,.G .one (aG .own S2)),(10,.G .one [I ((q:Nat):Int)])]) (λq=>q<=S2.length/\∀j,j<q->nth S2 j<eO h) (λq=>S2.length - q) (0) ?_ ψ λq a=>?_
 ·exact wB
 obtain⟨a,o⟩:=a;by_cases w:q<S2.length
 ·have b:=ar w
  repeat'(first|refine gE ?_|with_reducible refine Bf.D (λa=>?_) (λa=>?_))
  all_goals first
   | exact Z0 (λz=>[B z]) ((Gm (by rw[<-c];exact au w) ω).symm)
   | ((conv=>whnf);refine CD (q+1) ⟨ω,λj hj=>by rcases Nat.lt_or_ge j q with V|V;exact o j V;(obtain rfl:j=q:=ω);omega⟩ ω ?_;(exact wB))
 have t:∀p∈pgs h.K h.J,p<eO h:=λp T=>by grind [List.mem_iff_getElem?,b8]
 refine ZE ?_
 refine CF (ι:=Nat) (λp=>[(1,.G .box (ac.enc .S h)),(3,.G .box (aO.enc .S (tbl h))),(4,.G .one [I (eO h)]),(5,.G .one (aG .own S2)),(11,.G .one [I ((p:Nat):Int)])]) (λp=>p<=eO h/\df p (xn h)=true) (λp=>eO h - p) 0 ?_ ⟨X0 _,rfl⟩ λp T=>?_
 ·exact wB
 obtain⟨T,W⟩:=T;by_cases X:p<eO h
 ·have b:=ar (xs:=(tbl h).O) X
  have n:=AY h.a (p:Nat) ω
  repeat'(first|refine gE ?_|with_reducible (first|refine Bf.D (λa=>?_) (λa=>?_)|refine Bf.NB (λa=>?_) (λa=>?_))|refine CG (n6 S2 _ ω) ⟨⟨rfl,d9 _⟩,⟨rfl,rfl⟩,trivial⟩ ?_|refine Bf.P (λa=>?_) (λa=>?_))
  all_goals first
   | exact Z0 (λz=>[B z]) ((Hy (cB X (by unfold xn;rw[<-c];grind))).symm)
   | ((conv=>whnf);refine CD (p+1) ⟨ω,bV W (by unfold xn;rw[<-c];grind)⟩ ω ?_;(exact wB))
 refine ZE ?_
 obtain rfl:p=eO h:=ω
 exact Z0 (λz=>[B z]) ((xU J M t W).symm)
set_option maxHeartbeats 8000000
def Fy{z1 z2:Int}(h:z1=z2):Ry (I z1) (I z2):=by subst h;rfl
theorem Lw : z∈ins S p↔z∈S\/z=p:=by grind [ins]
theorem zf(S:List Int):(fX S).map (·.1)=S:=by unfold fX;rw[List.map_map];simp[C6]
theorem nk{t:aO}{p:Nat}(a:p<t.O.length):ax t (p:Nat)=nth t.O p:=by grind [ax]
theorem EY(h:ac)(G:dM h.K)(H:ed h.J)(d:wT h)(J:gc h.a)(u:bx h.K h.J=true):zzA 77 false [.val (some 24) (ac.enc .S h)] .one [B (pages0 h&&qu h)]:=by
 have hl1:=G.1;have hl2:=H.1;have hl3:eO h<=1048576:=d.1;have hl4:=J.1;have b:pages0 h=false->[B false]=[B (pages0 h&&qu h)]:=ψ
 refine fO 177 [(4,14,[25,26,27,28,29,30,31,32,33,34,35,36,37,38]),(16,14,[60,61,62,63,64,65,66,67,68,69,70,71,72,73]),(28,18,[102,103,104,105,106,107,108,109,110,111,112,113,114,115,116,117,118,119]),(42,23,[152,153,154,155,156,157,158,159,160,161,162,163,164,165,166,167,168,169,170,171,172,173,174])] Tryz.func77 rfl ?_
 refine ZP ?_
 refine CF (ι:=Nat) (λi=>[(1,.G .box (ac.enc .S h)),(18,.G .one (bW .S h.K)),(19,.G .one [I (h.K.length)]),(20,.G .one [I ((i:Nat):Int)])]) (λi=>i<=h.K.length/\df i (xN h.K)=true) (λi=>h.K.length - i) 0 ?_ ⟨X0 _,rfl⟩ λi g=>?_
 ·exact wB
 obtain⟨g,C⟩:=g;by_cases o:i<h.K.length
 ·have e:=ar o
  repeat'(first|refine gE ?_|with_reducible refine Bf.D (λa=>?_) (λa=>?_)|refine CK ω (aa (gx ω o)) ?_)
  all_goals first
   |exact b (FR (cB o (W0 ω)))
   | ((conv=>whnf);refine CD (i+1) ⟨ω,bV C (O0 ω)⟩ ω ?_;(exact wB))
 obtain rfl:i=h.K.length:=ω
 refine ZE ?_
 refine CF (ι:=Nat × List Int) (λi=>[(1,.G .box (ac.enc .S h)),(5,.G .one [.m (fX i.2)]),(42,.G .one (bW .S h.K)),(43,.G .one [I (h.K.length)]),(44,.G .one [I ((i.1:Nat):Int)])]) (λi=>i.1<=h.K.length/\∀z,z∈i.2↔z∈(h.K.take i.1).map (·.R)) (λi=>h.K.length - i.1) ((0,[])) ?_ ψ λi g=>?_
 ·exact wB
 obtain⟨i,S⟩:=i;obtain⟨K,Z⟩:=g;simp only at K Z |-;by_cases li2:i<h.K.length
 ·have e:=ar li2
  repeat'(first|refine gE ?_|refine Mu.mk (zT S _) ?_)
  (refine CD (i+1,ins S (nth h.K i).R) ⟨(by simp only;omega),λz=>by grind [Lw,X5]⟩ (by simp only;omega) ?_;(exact wB))
 obtain rfl:i=h.K.length:=ω
 rw[I5]at Z
 refine ZE ?_
 refine CF (ι:=Nat × List Int) (λk=>[(1,.G .box (ac.enc .S h)),(5,.G .one [.m (fX k.2)]),(53,.G .one (ch .S h.J)),(54,.G .one [I (h.J.length)]),(55,.G .one [I ((k.1:Nat):Int)])]) (λk=>k.1<=h.J.length/\(∀z,z∈k.2↔z∈pgs h.K (h.J.take k.1))/\df k.1 (uz h)=true) (λk=>h.J.length - k.1) ((0,S)) ?_ (⟨X0 _,λz=>by grind [pgs],rfl⟩) λk L=>?_
 ·exact wB
 obtain⟨k,S2⟩:=k;obtain⟨L,c,M⟩:=L;simp only at L c M |-;by_cases F:k<h.J.length
 ·have e:=ar F
  have hpg:=vM u e
  repeat'(first|refine gE ?_|with_reducible refine Bf.D (λa=>?_) (λa=>?_)|refine CK ω (aa (gx ω F)) ?_)
  all_goals first
   |exact b (ux (cB F (PE (W0 ω))))
   |have l:yB h.J k=true:=O0 ω
    (conv=>whnf)
    refine CF (ι:=Nat × List Int) (λq=>[(1,.G .box (ac.enc .S h)),(5,.G .one [.m (fX q.2)]),(9,.G .box (aD.enc .S (nth h.J k))),(10,.G .one [I ((nth h.J k).R+(q.1:Nat))]),(53,.G .one (ch .S h.J)),(54,.G .one [I (h.J.length)]),(55,.G .one [I ((k:Nat):Int)])]) (λq=>q.1<=(nth h.J k).w.toNat/\(∀z,z∈q.2↔z∈S2++lpgs (nth h.J k) q.1)/\df q.1 (yU h (nth h.J k))=true) (λq=>(nth h.J k).w.toNat - q.1) ((0,S2)) ?_ (⟨X0 _,λz=>by simp[lpgs],rfl⟩) λq a=>?_
    ·exact wB
    obtain⟨q,O⟩:=q;obtain⟨Q,n,R⟩:=a;simp only at Q n R |-;by_cases lq:q<(nth h.J k).w.toNat
    ·have hfl:=fG h ((nth h.J k).R+(q:Nat))
     repeat'(first|refine gE ?_|with_reducible refine Bf.N (λa=>?_) (λa=>?_)|refine C8 (kL h _ d) ?_|refine Mu.mk (zT O _) ?_)
     all_goals first
      |exact b (ux (cB F (P1 lq (W0 ω))))
      | ((conv=>whnf)
         refine CD (q+1,ins O ((nth h.J k).R+(q:Nat))) ⟨(by simp only;omega),λz=>by simp only[Lw,n];rw[lI];simp[or_assoc],bV R (O0 ω)⟩ (by simp only;omega) ?_
         (repeat'(first|exact trivial|rfl|refine CJ ?_ ?_|exact Fy (by simp;omega))))
    obtain rfl:q=(nth h.J k).w.toNat:=ω
    refine ZE ?_
    (refine CD (k+1,O) ⟨(by simp only;omega),(λz=>by simp only[n];rw[pA _ e];simp[c]),bV M (FY l R)⟩ (by simp only;omega) ?_;(exact wB))
 obtain rfl:k=h.J.length:=ω
 rw[I5]at c
 refine ZE ?_
 refine CF (ι:=Nat) (λp=>[(1,.G .box (ac.enc .S h)),(5,.G .one [.m (fX S2)]),(98,.G .one [I (eO h)]),(99,.G .one [I ((p:Nat):Int)])]) (λp=>p<=eO h/\df p (xn h)=true) (λp=>eO h - p) 0 ?_ ⟨X0 _,rfl⟩ λp hp=>?_
 ·exact wB
 obtain⟨hp,ap⟩:=hp;by_cases lp:p<eO h
 ·have T:=AX h.a (p:Nat) ω
  have w:=eX h.H (p:Nat) d;rw[nk lp]at w
  repeat'(first|refine gE ?_|with_reducible (first|refine Bf.D (λa=>?_) (λa=>?_)|refine Bf.NB (λa=>?_) (λa=>?_))|refine Ml.mk (oo (p:Nat) S2) ?_|refine Bf.P (λa=>?_) (λa=>?_))
  all_goals first
   |exact b (Hy (cB lp (by unfold xn tbl;have:=c (p:Nat);grind)))
   | ((conv=>whnf);refine CD (p+1) ⟨ω,bV ap (by unfold xn tbl;have:=c (p:Nat);grind)⟩ ω ?_;(exact wB))
 obtain rfl:p=eO h:=ω
 refine ZE ?_
 have hpn:eO h=h.H.F.Q.O.length:=rfl
 (conv=>whnf)
 refine CF (ι:=Option Int × List Int) (λt=>[(1,.G .box (ac.enc .S h)),(122,.G .one [.it t.1 t.2])]) (λt=>(∀z∈S2,z∈t.2\/z<eO h)/\∀z∈t.2,z∈S2) (λt=>t.2.length) ((none,(fX S2).map (·.1))) ?_ (⟨λz hz=>.inl (by grind [zf]),λz hz=>by grind [zf]⟩) λt ht=>?_
 ·exact wB
 obtain⟨cur,left⟩:=t;obtain⟨U,V⟩:=ht;simp only at U V |-
 repeat'(first|refine gP ?_|with_reducible refine Bf.D (λa=>?_) (λa=>?_)|refine Nt.mk (λa=>?_) (λl1 k l2 a=>?_))
 rotate_left
 ·exact b (Gm (p:=k) ψ ω)
 ·((conv=>whnf);refine CD (some k,l1++l2) ψ (by subst left;simp) ?_;(exact wB))
 have y:∀p∈pgs h.K h.J,p<eO h:=ψ
 have h0:pages0 h=true:=xU C M y ap;rw[h0,Bool.true_and]
 (conv=>whnf)
 refine CF (ι:=Nat) (λi=>[(1,.G .box (ac.enc .S h)),(136,.G .one (bW .S h.K)),(137,.G .one [I (h.K.length)]),(138,.G .one [I ((i:Nat):Int)])]) (λi=>i<=h.K.length/\df i (λi=>df i (ni h i))=true) (λi=>h.K.length - i) 0 ?_ ⟨X0 _,rfl⟩ λi g=>?_
 ·exact wB
 obtain⟨g,C⟩:=g;by_cases o:i<h.K.length
 ·have e:=ar o
  have W:(h.K.take i).length=i:=ψ
  repeat'(first|refine gE ?_|refine CS i rfl (by simp;omega) (λr T=>by obtain⟨z,-,rfl⟩:=W4.1 T;rfl) (O4 ..) ?_)
  refine CF (ι:=Nat) (λj=>[(1,.G .box (ac.enc .S h)),(14,.G .box (aA.enc .S (nth h.K i))),(136,.G .one (bW .S h.K)),(137,.G .one [I (h.K.length)]),(138,.G .one [I ((i:Nat):Int)]),(146,.G .one (bW .S (h.K.take i))),(147,.G .one [I ((h.K.take i).length)]),(148,.G .one [I ((j:Nat):Int)])]) (λj=>j<=(h.K.take i).length/\df j (ni h i)=true) (λj=>(h.K.take i).length - j) 0 ?_ ⟨X0 _,rfl⟩ λj hj=>?_
  ·exact wB
  obtain⟨hj,X⟩:=hj;by_cases lj:j<(h.K.take i).length
  ·have hy:=ar lj
   have he:nth (h.K.take i) j=nth h.K j:=b8 (by grind [ar]);rw[he]at hy;have w:=mM (nth h.K i) (nth h.K j);cases Y:meshable (nth h.K i) (nth h.K j)<;>rw[Y]at w
   all_goals
    repeat'(first|refine gE ?_|with_reducible refine Bf.E (λa=>?_) (λa=>?_)|refine C8 (cN (tbl h) _ d) ?_)
    all_goals first
     | exact Z0 (λz=>[B z]) ((by symm;exact cB o (cB (i:=j) ω (by unfold ni;rw[Y];grind))))
     | ((conv=>whnf);refine CD (j+1) ⟨ω,bV X (by unfold ni;rw[Y];grind)⟩ ω ?_;(exact wB))
  obtain rfl:j=(h.K.take i).length:=ω
  rw[W]at X
  refine ZE ?_
  (refine CD (i+1) ⟨ω,bV C X⟩ ω ?_;(exact wB))
 obtain rfl:i=h.K.length:=ω
 refine ZE ?_
 exact Z0 (λz=>[B z]) ((by grind [qu]))
set_option maxHeartbeats 8000000
theorem pS{α:Type}[Inhabited α](pr:α->Bool)(xs:List α):cj pr xs = -1\/∃n,n<xs.length/\cj pr xs=(n:Nat)/\pr (nth xs n)=true:=by
 unfold cj;cases h:xs.findIdx? pr with
 | none=>exact .inl rfl
 | some i=>
  obtain⟨a,b,-⟩:=S7.1 h;exact .inr ⟨i,a,rfl,by rw[b8 (X2 a)];exact b⟩
def HB(a:i<h.K.length)(b:k<(aV h (nth h.K i).R).length)(c:mX h i (nth (aV h (nth h.K i).R) k)=false):w6 h=false:=by
 unfold w6;exact cB a (gG (ar b) c)
theorem DI(h:ac)(j:dM h.K)(c:wT h):zzA 212 false [.val (some 24) (ac.enc .S h)] .one [B (w6 h)]:=by
 have l:=j.1;have E:eO h<=1048576:=c.1;refine fO 55 [(4,8,[14,15,16,17,18,19,20,21]),(8,6,[28,29,30,31,32,33]),(9,21,[34,35,36,37,38,39,40,41,42,43,44,45,46,47,48,49,50,51,52,53,54])] Tryz.func212 rfl ?_
 refine ZP ?_
 refine CF (ι:=Nat) (λi=>[(1,.G .box (ac.enc .S h)),(3,.G .one [I ((i:Nat):Int)])]) (λi=>i<=h.K.length/\df i (λi=>(aV h (nth h.K i).R).all (mX h i))=true) (λi=>h.K.length - i) 0 ?_ ⟨X0 _,rfl⟩ λi w=>?_
 ·exact wB
 obtain⟨w,F⟩:=w;by_cases o:i<h.K.length
 ·have q:=ar o
  have G:=fG h (nth h.K i).R
  repeat'(first|refine gE ?_|refine C8 (iC h _ c) ?_)
  refine CF (ι:=Nat) (λk=>[(1,.G .box (ac.enc .S h)),(3,.G .one [I ((i:Nat):Int)]),(4,.G .one (aG .own (aV h (nth h.K i).R))),(5,.G .one [I ((k:Nat):Int)])]) (λk=>k<=(aV h (nth h.K i).R).length/\((aV h (nth h.K i).R).take k).all (mX h i)=true) (λk=>(aV h (nth h.K i).R).length - k) (0) ?_ ψ λk y=>?_
  ·exact wB
  obtain⟨y,H⟩:=y;by_cases r:k<(aV h (nth h.K i).R).length
  ·have d:=ar r
   have a:=kj h (nth (aV h (nth h.K i).R) k) l;rcases pS (nj (nth (aV h (nth h.K i).R) k)) h.K with g|⟨n,J,g,-⟩
   ·rw[show gH h (nth (aV h (nth h.K i).R) k) = -1 from g]at a
    have t:mX h i (nth (aV h (nth h.K i).R) k)=false:=by grind [mX,gH]
    repeat'(first|refine gE ?_|with_reducible (first|refine Bf.D (λb=>?_) (λb=>?_)|refine Bf.N (λb=>?_) (λb=>?_)))
    all_goals first
     | exact Z0 (λz=>[B z]) ((HB o r t).symm)
     |(exfalso;omega)
   rw[show gH h (nth (aV h (nth h.K i).R) k)=(n:Nat) from g]at a;have K:=ar J;have C:=mG (nth h.K i) (nth h.K n);have e:mX h i (nth (aV h (nth h.K i).R) k)=(decide ((n:Int)=(i:Nat)) || meshable (nth h.K i) (nth h.K n)):=by
    unfold mX;rw[show gH h (nth (aV h (nth h.K i).R) k)=(n:Nat) from g,O0 (p:=(0:Int)<=(n:Nat)) ω];simp
   cases u:meshable (nth h.K i) (nth h.K n)<;>rw[u]at C
   all_goals
    repeat'(first|refine gE ?_|with_reducible (first|refine Bf.D (λb=>?_) (λb=>?_)|refine Bf.N (λb=>?_) (λb=>?_)))
    all_goals first
     | exact Z0 (λz=>[B z]) ((HB o r (by rw[e,u];grind)).symm)
     | ((conv=>whnf);refine CD (k+1) ⟨ω,cX d H (by rw[e,u];grind)⟩ ω ?_;(exact wB))
     |(exfalso;omega)
  refine ZE ?_
  (refine CD (i+1) ⟨ω,bV F ψ⟩ ω ?_;(exact wB))
 obtain rfl:i=h.K.length:=ω
 refine ZE ?_
 exact Z0 (λz=>[B z]) ((by grind [w6]))
def Mo(j:cz)(b:cz.sml j):zzA 217 false [.val (some 5) (cz.enc .S j)] .one [B (u6 j)]:=by
 have c:j.b.W.length<=1048576:=b;refine fO 30 [] Tryz.func217 rfl ?_
 repeat'(first|refine gP ?_|with_reducible (first|refine Bf.E (λa=>?_) (λa=>?_)|refine Bf.D (λa=>?_) (λa=>?_)))
 all_goals exact Z0 (λz=>[B z]) ((by unfold u6;first|(symm;exact W0 ω)|(rw[v5,beq_iff_eq,C0];omega)))
theorem oT(sp:List aA)(la:List aD)(a:Int):((denotes sp la a).b0=1->0<=(denotes sp la a).c4/\(denotes sp la a).c4.toNat<sp.length)/\((denotes sp la a).b0=3->0<=(denotes sp la a).c4/\(denotes sp la a).c4.toNat<la.length):=by grind [S7,denotes,qa]
theorem JT(h:ac)(a c:Int)(d:dM h.K)(e:ed h.J)(b:bx h.K h.J=true)(k:kV a):zzA 363 false [.val (some 24) (ac.enc .S h),.val none [I a],.val none [I c]] .one [B (dx h a c)]:=by
 have j:=oz h.K h.J a d e b k;obtain⟨g,-⟩:=oT h.K h.J a;unfold dx;generalize denotes h.K h.J a=w at j g |-;refine fO 37 [] Tryz.func363 rfl ?_
 repeat'(first|refine gP ?_|with_reducible (first|refine Bf.D (λi=>?_) (λi=>?_)|refine Bf.E (λi=>?_) (λi=>?_))|refine CK (g (by assumption)).1 (aa (ar (g (by assumption)).2)) ?_)
 all_goals exact Z0 (λz=>[B z]) (ψ)
theorem BU(h:ac)(o:bi)(w:jF)(a:denotes h.K h.J o.Addr=w):lw h o=(decide (w.c5=0)&&((decide (w.b0=1)&&decide ((nth h.K w.c4.toNat).Z=aS o.a1)) || (decide (w.b0=3)&&decide ((nth h.J w.c4.toNat).a1=o.a1)))):=by grind [lw]
def jP(a:i<h.M.length)(b:objAt (IntKind.i64.wrap (h.o - 1)) h i=false):gt h=false:=cB a b
theorem Lk(h1:i9 a h i=false):objAt a h i=false:=by grind [objAt]
theorem La(h1:(h.M.take i).any (ic (nth h.M i).Id)=true):objAt a h i=false:=by grind [objAt]
theorem Kk(h1:lw h (nth h.M i)=false):objAt a h i=false:=by grind [objAt]
theorem Dv(h1:i9 a h i=true)(b:(h.M.take i).any (ic (nth h.M i).Id)=false)(c:lw h (nth h.M i)=true):objAt a h i=true:=by grind [objAt]
theorem HO(h:ac)(l:dM h.K)(n:ed h.J)(g:bx h.K h.J=true)(K:h.M.length<=1048576)(L:h.T.length<=1048576)(H:∀o∈h.M,kV o.Addr):zzA 215 false [.val (some 24) (ac.enc .S h)] .one [B (gt h)]:=by
 refine fO 117 [(5,33,[21,22,23,24,25,26,27,28,29,30,31,32,33,34,35,36,37,38,39,40,41,42,43,44,45,46,47,48,49,50,51,52,53]),(10,9,[59,60,61,62,63,64,65,66,67]),(13,16,[75,76,77,78,79,80,81,82,83,84,85,86,87,88,89,90]),(14,15,[91,92,93,94,95,96,97,98,99,100,101,102,103,104,105])] Tryz.func215 rfl ?_
 refine ZP ?_
 refine CF (ι:=Nat) (λi=>[(1,.G .box (ac.enc .S h)),(3,.G .one [I ((i:Nat):Int)])]) (λi=>i<=h.M.length/\df i (objAt (IntKind.i64.wrap (h.o - 1)) h)=true) (λi=>h.M.length - i) 0 ?_ ⟨X0 _,rfl⟩ λi t=>?_
 ·exact wB
 obtain⟨t,u⟩:=t;by_cases e:i<h.M.length
 ·have y:=ar e
  have C:=oz h.K h.J (nth h.M i).Addr l n g (H _ (au e));obtain⟨p,q⟩:=oT h.K h.J (nth h.M i).Addr;have b:=BU h (nth h.M i) _ rfl;generalize denotes h.K h.J (nth h.M i).Addr=w at C p q b;by_cases c:i9 (IntKind.i64.wrap (h.o - 1)) h i=true
  ·have a:=c
   unfold i9 at a;rw[C0]at a
   repeat'(first|refine gE ?_|with_reducible refine Bf.D (λd=>?_) (λd=>?_)|refine CK ω (aa (gx ω e)) ?_|refine C8 (aM _ _ _) ?_|refine CL rfl ?_)
   all_goals
    (conv=>whnf)
    refine CF (ι:=Nat) (λk=>[(1,.G .box (ac.enc .S h)),(3,.G .one [I ((i:Nat):Int)]),(4,.G .box (bi.enc .S (nth h.M i))),(5,.G .one [I ((k:Nat):Int)])]) (λk=>k<=i/\(h.M.take k).any (ic (nth h.M i).Id)=false) (λk=>i - k) (0) ?_ (⟨X0 _,rfl⟩) λk F=>?_
    ·exact wB
    obtain⟨F,G⟩:=F;by_cases J:k<i
    ·have r:=ar (xs:=h.M) (i:=k) ω
     repeat'(first|refine gE ?_|with_reducible refine Bf.E (λd=>?_) (λd=>?_))
     all_goals first
      | exact Z0 (λz=>[B z]) ((jP e (La (DV (i:=k) (by rw[List.getElem?_take_of_lt J];exact r) (O0 (by assumption))))).symm)
      | ((conv=>whnf);refine CD (k+1) ⟨ω,xM r G (W0 (by assumption))⟩ ω ?_;(exact wB))
    obtain rfl:k=i:=ω
    repeat'(first|refine gE ?_|with_reducible (first|refine Bf.D (λd=>?_) (λd=>?_)|refine Bf.E (λd=>?_) (λd=>?_)|refine Bf.N (λd=>?_) (λd=>?_))|refine CK (p (by assumption)).1 (aa (ar (p (by assumption)).2)) ?_|refine CK (q (by assumption)).1 (aa (ar (q (by assumption)).2)) ?_|refine C8 (lh _) ?_)
    all_goals first
     | exact Z0 (λz=>[B z]) ((jP e (Kk (by rw[b];grind))).symm)
     | ((conv=>whnf);refine CD (k+1) ⟨ω,bV u (Dv c G (by rw[b];grind))⟩ ω ?_;(exact wB))
     |(exfalso;omega)
  have j:i9 (IntKind.i64.wrap (h.o - 1)) h i=false:=by simpa using c
  have a:=j;unfold i9 at a;rw[t5]at a
  repeat'(first|refine gE ?_|with_reducible refine Bf.D (λd=>?_) (λd=>?_)|refine CK ω (aa (gx ω e)) ?_|refine C8 (aM _ _ _) ?_|refine CL rfl ?_)
  all_goals first
   | exact Z0 (λz=>[B z]) ((jP e (Lk j)).symm)
   |(exfalso;omega)
 obtain rfl:i=h.M.length:=ω
 refine ZE ?_
 exact Z0 (λz=>[B z]) ((show true=gt h from u.symm))
theorem qE(o a:bi):zzA 234 false [.val (some 4) (bi.enc .S o),.ptr (bi.enc .S a)] .one [B (ic a.Id o)]:=by
 refine fO 9 [] Tryz.func234 rfl ?_
 refine ZP ?_
 grind [ic]
theorem H2(h:ac)(n:dM h.K)(o:ed h.J)(J:h.M.length<=1048576)(K:h.T.length<=1048576):zzA 81 false [.val (some 24) (ac.enc .S h)] .one [B (gt h)]:=by
 refine fO 105 [(4,33,[16,17,18,19,20,21,22,23,24,25,26,27,28,29,30,31,32,33,34,35,36,37,38,39,40,41,42,43,44,45,46,47,48]),(9,16,[62,63,64,65,66,67,68,69,70,71,72,73,74,75,76,77]),(10,15,[78,79,80,81,82,83,84,85,86,87,88,89,90,91,92])] Tryz.func81 rfl ?_
 refine ZP ?_
 refine CF (ι:=Nat) (λi=>[(1,.G .box (ac.enc .S h)),(9,.G .one (nI .S h.M)),(10,.G .one [I (h.M.length)]),(11,.G .one [I ((i:Nat):Int)])]) (λi=>i<=h.M.length/\df i (objAt (IntKind.i64.wrap (h.o - 1)) h)=true) (λi=>h.M.length - i) 0 ?_ ⟨X0 _,rfl⟩ λi F=>?_
 ·exact wB
 obtain⟨F,G⟩:=F;by_cases g:i<h.M.length
 ·have p:=ar g
  have H:=lf h.K h.J (nth h.M i).Addr n o;obtain⟨q,t⟩:=oT h.K h.J (nth h.M i).Addr;have b:=BU h (nth h.M i) _ rfl;generalize denotes h.K h.J (nth h.M i).Addr=w at H q t b;have j:=vA (h.M.take i) (ic (nth h.M i).Id) ψ;by_cases c:i9 (IntKind.i64.wrap (h.o - 1)) h i=true
  ·have a:=c
   unfold i9 at a;rw[C0]at a;cases d:(h.M.take i).any (ic (nth h.M i).Id)<;>rw[d]at j
   ·repeat'(first|refine gE ?_|with_reducible (first|refine Bf.D (λe=>?_) (λe=>?_)|refine Bf.E (λe=>?_) (λe=>?_)|refine Bf.N (λe=>?_) (λe=>?_))|refine CK ω (aa (gx ω g)) ?_|refine C8 (aI _ _ _) ?_|refine CS i rfl (by simp;omega) (λr u=>by obtain⟨z,-,rfl⟩:=W4.1 u;rfl) (O4 ..) ?_|refine Cq.mk (pk (some 4) (bi.enc .S) (ic (nth h.M i).Id) (h.M.take i)) (qE default (nth h.M i)).has (λL k rcs C=>by obtain⟨y,-,rfl,rfl,rfl⟩:=C;exact qE y (nth h.M i)) ?_|refine CK (q (by assumption)).1 (aa (ar (q (by assumption)).2)) ?_|refine CK (t (by assumption)).1 (aa (ar (t (by assumption)).2)) ?_|refine C8 (lr _) ?_|refine CL rfl ?_)
    all_goals first
     | exact Z0 (λz=>[B z]) ((jP g (Kk (by rw[b];grind))).symm)
     | ((conv=>whnf);refine CD (i+1) ⟨ω,bV G (Dv c d (by rw[b];grind))⟩ ω ?_;(exact wB))
     |(exfalso;omega)
   repeat'(first|refine gE ?_|with_reducible refine Bf.D (λe=>?_) (λe=>?_)|refine CK ω (aa (gx ω g)) ?_|refine C8 (aI _ _ _) ?_|refine CS i rfl (by simp;omega) (λr u=>by obtain⟨z,-,rfl⟩:=W4.1 u;rfl) (O4 ..) ?_|refine Cq.mk (pk (some 4) (bi.enc .S) (ic (nth h.M i).Id) (h.M.take i)) (qE default (nth h.M i)).has (λL k rcs C=>by obtain⟨y,-,rfl,rfl,rfl⟩:=C;exact qE y (nth h.M i)) ?_|refine CL rfl ?_)
   all_goals first
    | exact Z0 (λz=>[B z]) ((jP g (La d)).symm)
    |(exfalso;omega)
  have l:i9 (IntKind.i64.wrap (h.o - 1)) h i=false:=by simpa using c
  have a:=l;unfold i9 at a;rw[t5]at a
  repeat'(first|refine gE ?_|with_reducible refine Bf.D (λe=>?_) (λe=>?_)|refine CK ω (aa (gx ω g)) ?_|refine C8 (aI _ _ _) ?_|refine CL rfl ?_)
  all_goals first
   | exact Z0 (λz=>[B z]) ((jP g (Lk l)).symm)
   |(exfalso;omega)
 obtain rfl:i=h.M.length:=ω
 refine ZE ?_
 exact Z0 (λz=>[B z]) ((show true=gt h from G.symm))
set_option maxHeartbeats 8000000
theorem Me(h:kK sp la n=true):m7 sp la (n+1)=m7 sp la n++[(n:Int)]:=by grind [List.range_succ,m7]
theorem PX(h:kK sp la n=false):m7 sp la (n+1)=m7 sp la n:=by grind [List.range_succ,m7]
theorem BD(sp:List aA)(la:List aD)(n:Nat):(m7 sp la n).length<=n:=by grind [m7]
theorem uy{w:jF}(a:denotes sp la (n:Nat)=w):kK sp la n=(decide (w.c5=0)&&(decide (w.b0=1) || decide (w.b0=3))):=by grind [kK]
def Rr(h:n<=1048576):kV (n:Nat):=⟨ω,ω⟩
theorem yK(sp:List aA)(la:List aD)(c:dM sp)(d:ed la)(a:bx sp la=true):zzA 364 false [.val none (bW .S sp),.val none (ch .S la)] .one (aG .own (kW sp la)):=by
 have g:=mN sp la c d;rw[a]at g;refine fO 40 [] Tryz.func364 rfl ?_ (.inr (bO _))
 refine ZP ?_
 refine CF (ι:=Nat) (λn=>[(0,.G .one (bW .S sp)),(1,.G .one (ch .S la)),(5,.G .one (aG .own (m7 sp la n))),(6,.G .one [I ((n:Nat):Int)])]) (λn=>n<=512) (λn=>512 - n) (0) ?_ (X0 _) λn o=>?_
 ·exact wB
 have i:=BD sp la n;by_cases p:n<512
 ·have h:=oz sp la (n:Nat) c d a (Rr ω)
  generalize j:denotes sp la (n:Nat)=w at h;have e:=uy j
  repeat'(first|refine gE ?_|with_reducible refine Bf.E (λk=>?_) (λk=>?_)|refine CT cR (λr l=>by rw[V1.1 l];rfl) (by simp[bn,eP]) (by simp;omega) (by simp only[I1];exact xi (by simp;omega) (by decide)) rfl ?_)
  all_goals first
   |(have b:kK sp la n=true:=by rw[e];grind
     (conv=>whnf)
     refine CD (n+1) ω ω ?_;rw[Me b]
     (repeat'(first|exact trivial|rfl|exact CJ rfl (CJ (Z0 (C.s dA.own) (by simp[rI])) trivial)|refine CJ ?_ ?_)))
   |(have b:kK sp la n=false:=by rw[e];grind
     (conv=>whnf)
     refine CD (n+1) ω ω ?_;rw[PX b]
     (exact wA))
 obtain rfl:n=512:=ω
 refine ZE ?_
 rfl
theorem xL(m:aN)(a:m.g.length=m.U.length):∀i,i<=m.U.length->(((flight1 m i).length+(flight2 m i).length:Nat):Int)=bI m i
 | 0,_=>rfl
 | i+1,h=>by
  have d:=xL m a i ω;have b:=ar (xs:=m.U) (i:=i) ω;have c:=ar (xs:=m.g) (i:=i) ω;rw[oB b,nQ c];simp only[X3,I1];show _=bI m i+((nth m.U i).length+(nth m.g i).length);omega
theorem tF(h:bB m=true):(aU m).length<=30:=by grind [xL,qb,bB]
def HD(d:aN.wf m):∀a∈aU m,kV a:=by
 intro a b;unfold aU at b;split at b
 ·rcases O3.1 b with h|h
  ·obtain⟨l,c,h⟩:=List.mem_flatMap.1 h
   obtain⟨p,e,rfl⟩:=W4.1 h;exact((d.1.2 l c).2 p e).2
  obtain⟨l,c,h⟩:=List.mem_flatten.1 h;exact(d.2.2 l c).2 a h
 cases b
theorem Mc(h1:h.T.all (fw h)=false):kG h=false:=by grind [kG,kf]
theorem M0(h1:h.a3.q.all (iw h)=false):kG h=false:=by grind [kG,kf]
theorem LE(h1:(aU h.j).all (l7 h)=false):kG h=false:=by grind [kG,kf]
theorem LW(a:i<(holders h).length)(b:nth (holders h) i∈(holders h).take i):kG h=false:=by
 have c:decide (holders h).Nodup=false:=NH (S:=(holders h).take i) (p:=nth (holders h) i) (by
   have:=ar a;have e:(holders h).take i++[nth (holders h) i]=(holders h).take (i+1):=by grind [X5]
   grind) b
 grind [kG]
theorem vU(a:h.T[i]? = some c):((h.T.take (i+1)).flatMap λc=>c.X.flatten)=((h.T.take i).flatMap λc=>c.X.flatten)++c.X.flatten:=by grind [X5]
theorem z8(a:c.X[k]? = some l):(c.X.take (k+1)).flatten=(c.X.take k).flatten++l:=by grind [X5]
theorem Js(h:ac)(hs:ac.sml h)(hw:ac.wf h)(t:bx h.K h.J=true)(w:bB h.j=true)(W:∀c∈h.T,bz c=true):zzA 216 false [.val (some 24) (ac.enc .S h)] .one [B (kG h)]:=by
 obtain⟨-,-,G,H,X,Y,Z,hsq,-⟩:=hs;obtain⟨-,-,-,-,-,hwc,hwm,hwq,-⟩:=hw;have hlo:h.M.length<=1048576:=X.1;have hlc:h.T.length<=1048576:=Y.1;have hlq:h.a3.q.length<=1048576:=hsq.1;have hfl:=tF w;have hfw:=HD hwm;have y:∀a c,kV a->zzA 363 false [.val (some 24) (ac.enc .S h),.val none [I a],.val none [I c]] .one [B (dx h a c)]:=λa c ha=>JT h a c G H t ha
 refine fO 159 [(16,8,[63,64,65,66,67,68,69,70]),(22,17,[86,87,88,89,90,91,92,93,94,95,96,97,98,99,100,101,102]),(29,7,[122,123,124,125,126,127,128]),(35,8,[142,143,144,145,146,147,148,149])] Tryz.func216 rfl ?_
 refine ZP ?_
 refine CF (ι:=Nat × List Int) (λi=>[(1,.G .box (ac.enc .S h)),(3,.G .one (aG .own i.2)),(4,.G .one [I ((i.1:Nat):Int)])]) (λi=>i.1<=h.M.length/\i.2=(h.M.take i.1).map (·.Addr)) (λi=>h.M.length - i.1) ((0,[])) ?_ ψ λi u=>?_
 ·exact wB
 obtain⟨i,S⟩:=i;obtain⟨u,Q⟩:=u;simp only at u Q |-;have hSl:S.length=i:=ψ
 by_cases li:i<h.M.length
 ·have E:=ar li
  repeat'(first|refine gE ?_|refine CT cR (λr l=>by rw[V1.1 l];rfl) (by simp[bn,eP]) (by simp;omega) (by simp only[I1];exact xi (by simp;omega) (by decide)) rfl ?_)
  ((conv=>whnf)
   refine CD (i+1,S++[(nth h.M i).Addr]) ⟨(by simp only;omega),(by grind [X5])⟩ (by simp only;omega) ?_
   (repeat'(first|exact trivial|rfl|exact CJ rfl (CJ (Z0 (C.s dA.own) (by simp[rI])) trivial)|refine CJ ?_ ?_)))
 obtain rfl:i=h.M.length:=ω
 rw[I5]at Q
 refine ZE ?_
 refine CF (ι:=Nat × List Int) (λi=>[(1,.G .box (ac.enc .S h)),(3,.G .one (aG .own i.2)),(5,.G .one [I ((i.1:Nat):Int)])]) (λi=>i.1<=h.T.length/\i.2=S++((h.T.take i.1).flatMap λc=>c.X.flatten)/\(h.T.take i.1).all (fw h)=true/\i.2.length<=1048576+32*i.1) (λi=>h.T.length - i.1) ((0,S)) ?_ ψ λi u=>?_
 ·exact wB
 obtain⟨i,S2⟩:=i;obtain⟨hi2,n,ai,J⟩:=u;simp only at hi2 n ai J |-;by_cases li2:i<h.T.length
 ·have E:=ar li2
  obtain⟨h4,h8⟩:=wJ (W _ (au li2));have hwl:=hwc.2 _ (au li2)
  refine ZE ?_
  refine CF (ι:=Nat × List Int) (λk=>[(1,.G .box (ac.enc .S h)),(3,.G .one (aG .own k.2)),(5,.G .one [I ((i:Nat):Int)]),(6,.G .one [I ((k.1:Nat):Int)])]) (λk=>k.1<=(nth h.T i).X.length/\k.2=S2++((nth h.T i).X.take k.1).flatten/\df k.1 (t7 h (nth h.T i))=true/\k.2.length<=S2.length+8*k.1) (λk=>(nth h.T i).X.length - k.1) ((0,S2)) ?_ (⟨X0 _,by simp,rfl,by simp⟩) λk hk=>?_
  ·exact wB
  obtain⟨k,R⟩:=k;obtain⟨hk,K,ak,hb3⟩:=hk;simp only at hk K ak hb3 |-;by_cases T:k<(nth h.T i).X.length
  ·have hy:=ar T
   have hl8:=h8 _ (au T);have hwa:=(hwl.2 _ (au T)).2
   refine ZE ?_
   refine CF (ι:=Nat × List Int) (λj=>[(1,.G .box (ac.enc .S h)),(3,.G .one (aG .own j.2)),(5,.G .one [I ((i:Nat):Int)]),(6,.G .one [I ((k:Nat):Int)]),(7,.G .one (aG .S (nth (nth h.T i).X k))),(8,.G .one [I ((j.1:Nat):Int)])]) (λj=>j.1<=(nth (nth h.T i).X k).length/\j.2=R++(nth (nth h.T i).X k).take j.1/\((nth (nth h.T i).X k).take j.1).all (λa=>dx h a (k:Nat))=true) (λj=>(nth (nth h.T i).X k).length - j.1) ((0,R)) ?_ ψ λj hj=>?_
   ·exact wB
   obtain⟨j,S4⟩:=j;obtain⟨hj,L,U⟩:=hj;simp only at hj L U |-;have hl4:S4.length=R.length+j:=ψ
   by_cases lj:j<(nth (nth h.T i).X k).length
   ·have d:=ar lj
    have b:=y (nth (nth (nth h.T i).X k) j) (k:Nat) ψ;cases g:dx h (nth (nth (nth h.T i).X k) j) (k:Nat)<;>rw[g]at b
    ·refine ZE ?_
     exact Z0 (λz=>[B z]) ((Mc (gG E (by unfold fw;exact cB T (gG d g)))).symm)
    repeat'(first|refine gE ?_|refine CT cR (λr l=>by rw[V1.1 l];rfl) (by simp[bn,eP]) (by simp;omega) (by show _*8<=_;simp;omega) rfl ?_)
    ((conv=>whnf)
     refine CD (j+1,S4++[nth (nth (nth h.T i).X k) j]) ⟨(by simp only;omega),(by grind [X5]),cX d U g⟩ (by simp only;omega) ?_
     (repeat'(first|exact trivial|rfl|exact CJ rfl (CJ (Z0 (C.s dA.own) (by simp[rI])) trivial)|refine CJ ?_ ?_)))
   obtain rfl:j=(nth (nth h.T i).X k).length:=ω
   rw[I5]at L U
   refine ZE ?_
   (refine CD (k+1,S4) ⟨(by simp only;omega),(by grind [z8]),bV ak U,(by simp only;omega)⟩ (by simp only;omega) ?_;(exact wB))
  obtain rfl:k=(nth h.T i).X.length:=ω
  rw[I5]at K
  refine ZE ?_
  (refine CD (i+1,R) ⟨(by simp only;omega),(by grind [vU]),cX E ai ak,(by simp only;omega)⟩ (by simp only;omega) ?_;(exact wB))
 obtain rfl:i=h.T.length:=ω
 rw[I5]at n ai
 refine ZE ?_
 refine CF (ι:=Nat × List Int) (λq=>[(1,.G .box (ac.enc .S h)),(3,.G .one (aG .own q.2)),(9,.G .one [I ((q.1:Nat):Int)])]) (λq=>q.1<=h.a3.q.length/\q.2=S2++(h.a3.q.take q.1).map (·.Addr)/\(h.a3.q.take q.1).all (iw h)=true) (λq=>h.a3.q.length - q.1) ((0,S2)) ?_ ψ λq M=>?_
 ·exact wB
 obtain⟨q,N⟩:=q;obtain⟨F,o,aq⟩:=M;simp only at F o aq |-;have hl5:N.length=S2.length+q:=ψ
 by_cases V:q<h.a3.q.length
 ·have d:=ar V
  have b:=y (nth h.a3.q q).Addr (nth h.a3.q q).Z (hwq.2.2 _ (au V)).1;cases g:dx h (nth h.a3.q q).Addr (nth h.a3.q q).Z<;>rw[g]at b
  ·refine ZE ?_
   exact Z0 (λz=>[B z]) ((M0 (gG d g)).symm)
  repeat'(first|refine gE ?_|refine CT cR (λr l=>by rw[V1.1 l];rfl) (by simp[bn,eP]) (by simp;omega) (by show _*8<=_;simp;omega) rfl ?_)
  ((conv=>whnf)
   refine CD (q+1,N++[(nth h.a3.q q).Addr]) ⟨(by simp only;omega),(by grind [X5]),cX d aq g⟩ (by simp only;omega) ?_
   (repeat'(first|exact trivial|rfl|exact CJ rfl (CJ (Z0 (C.s dA.own) (by simp[rI])) trivial)|refine CJ ?_ ?_)))
 obtain rfl:q=h.a3.q.length:=ω
 rw[I5]at o aq
 repeat'(first|refine gE ?_|refine C8 (AK h.j Z) ?_)
 refine CF (ι:=Nat × List Int) (λq=>[(1,.G .box (ac.enc .S h)),(3,.G .one (aG .own q.2)),(10,.G .one (aG .own (aU h.j))),(11,.G .one [I ((q.1:Nat):Int)])]) (λq=>q.1<=(aU h.j).length/\q.2=N++(aU h.j).take q.1/\((aU h.j).take q.1).all (l7 h)=true) (λq=>(aU h.j).length - q.1) ((0,N)) ?_ ψ λq M=>?_
 ·exact wB
 obtain⟨q,e⟩:=q;obtain⟨F,p,aq6⟩:=M;simp only at F p aq6 |-;have hl6:e.length=N.length+q:=ψ
 by_cases V:q<(aU h.j).length
 ·have d:=ar V
  have b:=y (nth (aU h.j) q) (-1) ψ;cases g:dx h (nth (aU h.j) q) (-1)<;>rw[g]at b
  ·refine ZE ?_
   exact Z0 (λz=>[B z]) ((LE (gG d g)).symm)
  repeat'(first|refine gE ?_|refine CT cR (λr l=>by rw[V1.1 l];rfl) (by simp[bn,eP]) (by simp;omega) (by show _*8<=_;simp;omega) rfl ?_)
  ((conv=>whnf)
   refine CD (q+1,e++[nth (aU h.j) q]) ⟨(by simp only;omega),(by grind [X5]),cX d aq6 g⟩ (by simp only;omega) ?_
   (repeat'(first|exact trivial|rfl|exact CJ rfl (CJ (Z0 (C.s dA.own) (by simp[rI])) trivial)|refine CJ ?_ ?_)))
 obtain rfl:q=(aU h.j).length:=ω
 rw[I5]at p aq6;have O:e=holders h:=by rw[p,o,n,Q];rfl
 have hheld:kf h=true:=by grind [kf]
 have hbig:e.length<=100000000:=ω
 clear p o n Q hSl hl5 J hl6
 refine ZE ?_
 refine Lp.fz 3 (ι:=Nat) (λi=>[(1,.G .box (ac.enc .S h)),(3,.G .one (aG .S e)),(12,.G .one [I ((i:Nat):Int)])]) (λi=>i<=e.length/\(e.take i).Nodup) (λi=>e.length - i) 0 ?_ ψ λi u=>?_
 ·(repeat'(first|exact trivial|rfl|exact CJ rfl (show LZ (dB (aG .own e)) (aG .S e) by rw[d9];exact kF _)|refine CJ ?_ ?_))
 obtain⟨u,P⟩:=u;by_cases lj:i<e.length
 ·have d:=ar lj
  have htl:(e.take i).length=i:=ψ
  repeat'(first|refine gE ?_|with_reducible refine Bf.D (λM=>?_) (λM=>?_)|refine CS i rfl (by simp;omega) (λr l=>by obtain⟨z,-,rfl⟩:=W4.1 l;rfl) (O4 ..) ?_|refine C8 (n6 (e.take i) _ ω) ?_)
  all_goals first
   | exact Z0 (λz=>[B z]) ((by rw[O]at *;exact(LW (by assumption) (by assumption)).symm))
   | ((conv=>whnf);refine CD (i+1) ⟨ω,by rw[X5,d];exact lM P (by assumption)⟩ ω ?_;(exact wB))
 obtain rfl:i=e.length:=ω
 rw[I5]at P;have hlv:=BD h.K h.J 512
 repeat'(first|refine gE ?_|refine C8 (yK h.K h.J G H t) ?_)
 exact Z0 (λz=>[B z]) ((by grind [kG]))
set_option maxHeartbeats 8000000
def dJ(h:ac):Bool:=(bB h.j&&decide (h.T.length=h.j.U.length))&&fQ h.a3
def eE(h:ac):Bool:=((((((mU h&&w6 h)&&dJ h)&&mD h)&&h.T.all bz)&&cg h)&&(gt h&&kG h))&&sX h
theorem FT(h:ac)(X:ac.sml h)(Y:ac.wf h):zzA 73 false [.val (some 24) (ac.enc .S h)] .one [B (eE h)]:=by
 have M:=X;have O:=Y;obtain⟨u,w,b,j,P,y,C,E,F⟩:=X;obtain⟨-,-,-,-,Q,hwc,hwm,hwq,-⟩:=Y;have l:wT h:=u.1.2;have hpn:eO h<=1048576:=l.1;have R:h.M.length<=1048576:=P.1;have S:h.T.length<=1048576:=y.1;have hlq:h.a3.q.length<=1048576:=E.1;have hlb:h.j.U.length<=1048576:=C.1.1;have d:=kb h.H u;have e:=mO (eO h) h.a ω w;have g:=mN h.K h.J b j;have r:=DI h b l;have G:=mE h.j C;have T:=qm h.a3 E;cases Z:aJ h.H<;>rw[Z]at d
 ·refine fO 150 [(8,10,[67,68,69,70,71,72,73,74,75,76])] Tryz.func73 rfl ?_
  repeat'(first|refine gP ?_|with_reducible refine Bf.N (λa=>?_) (λa=>?_))
  all_goals first
   | exact Z0 (λz=>[B z]) ((by unfold eE mU;rw[Z];simp))
   |(exfalso;omega)
 cases e2:bF (eO h) h.a<;>rw[e2]at e
 ·refine fO 150 [(8,10,[67,68,69,70,71,72,73,74,75,76])] Tryz.func73 rfl ?_
  repeat'(first|refine gP ?_|with_reducible refine Bf.N (λa=>?_) (λa=>?_))
  all_goals first
   | exact Z0 (λz=>[B z]) ((by unfold eE mU;rw[e2];simp))
   |(exfalso;omega)
 cases H:bx h.K h.J<;>rw[H]at g
 ·refine fO 150 [(8,10,[67,68,69,70,71,72,73,74,75,76])] Tryz.func73 rfl ?_
  repeat'(first|refine gP ?_|with_reducible refine Bf.N (λa=>?_) (λa=>?_))
  all_goals first
   | exact Z0 (λz=>[B z]) ((by unfold eE mU;rw[H];simp))
   |(exfalso;omega)
 have n:=FH h b j l w H;cases e4:pages0 h<;>rw[e4]at n
 ·refine fO 150 [(8,10,[67,68,69,70,71,72,73,74,75,76])] Tryz.func73 rfl ?_
  repeat'(first|refine gP ?_|with_reducible refine Bf.N (λa=>?_) (λa=>?_))
  all_goals first
   | exact Z0 (λz=>[B z]) ((by unfold eE mU;rw[e4];simp))
   |(exfalso;omega)
 cases e5:w6 h<;>rw[e5]at r
 ·refine fO 150 [(8,10,[67,68,69,70,71,72,73,74,75,76])] Tryz.func73 rfl ?_
  repeat'(first|refine gP ?_|with_reducible refine Bf.N (λa=>?_) (λa=>?_))
  all_goals first
   | exact Z0 (λz=>[B z]) ((by unfold eE ;rw[e5];simp))
   |(exfalso;omega)
 cases U:bB h.j<;>rw[U]at G
 ·refine fO 150 [(8,10,[67,68,69,70,71,72,73,74,75,76])] Tryz.func73 rfl ?_
  repeat'(first|refine gP ?_|with_reducible refine Bf.N (λa=>?_) (λa=>?_))
  all_goals first
   | exact Z0 (λz=>[B z]) ((by unfold eE dJ;rw[U];simp))
   |(exfalso;omega)
 by_cases V:h.T.length=h.j.U.length;rotate_left
 ·refine fO 150 [(8,10,[67,68,69,70,71,72,73,74,75,76])] Tryz.func73 rfl ?_
  repeat'(first|refine gP ?_|with_reducible refine Bf.N (λa=>?_) (λa=>?_))
  all_goals first
   | exact Z0 (λz=>[B z]) ((by unfold eE dJ;rw[W0 V];simp))
   |(exfalso;omega)
 cases e7:fQ h.a3<;>rw[e7]at T
 ·refine fO 150 [(8,10,[67,68,69,70,71,72,73,74,75,76])] Tryz.func73 rfl ?_
  repeat'(first|refine gP ?_|with_reducible refine Bf.N (λa=>?_) (λa=>?_))
  all_goals first
   | exact Z0 (λz=>[B z]) ((by unfold eE dJ;rw[e7];simp))
   |(exfalso;omega)
 have hlay:mU h=true:=by grind [mU]
 have hmc:dJ h=true:=by grind [dJ]
 refine fO 150 [(8,10,[67,68,69,70,71,72,73,74,75,76])] Tryz.func73 rfl ?_
 repeat'(first|refine gB ?_|with_reducible refine Bf.N (λa=>?_) (λa=>?_))
 all_goals try(exfalso;omega)
 (conv=>whnf)
 refine CF (ι:=Nat) (λi=>[(1,.G .box (ac.enc .S h)),(3,.G .one [I ((i:Nat):Int)])]) (λi=>i<=h.a3.q.length/\(h.a3.q.take i).all (λx=>decide (x.b2<=h.a8))=true) (λi=>h.a3.q.length - i) (0) ?_ ψ λi hi=>?_
 ·exact wB
 obtain⟨hi,ai⟩:=hi;by_cases li:i<h.a3.q.length
 ·have p:=ar li
  repeat'(first|refine gE ?_|with_reducible refine Bf.D (λa=>?_) (λa=>?_))
  all_goals first
   | exact Z0 (λz=>[B z]) ((by unfold eE mD;rw[gG p (W0 ω)];simp))
   | ((conv=>whnf);refine CD (i+1) ⟨ω,cX p ai (O0 ω)⟩ ω ?_;(exact wB))
 have hsi:mD h=true:=ot ω ai
 refine ZE ?_
 refine CF (ι:=Nat) (λk=>[(1,.G .box (ac.enc .S h)),(4,.G .one [I ((k:Nat):Int)])]) (λk=>k<=h.T.length/\(h.T.take k).all bz=true) (λk=>h.T.length - k) (0) ?_ ψ λk hk=>?_
 ·exact wB
 obtain⟨hk,ak⟩:=hk;by_cases lk:k<h.T.length
 ·have p:=ar lk
  have W:=oA (nth h.T k) (y.2 _ (au lk));cases e8:bz (nth h.T k)<;>rw[e8]at W
  ·refine ZE ?_
   exact Z0 (λz=>[B z]) ((by grind [eE]))
  refine ZE ?_
  (refine CD (k+1) ⟨ω,cX p ak e8⟩ ω ?_;(exact wB))
 have hca:h.T.all bz=true:=ot ω ak;have q:=HO h b j H R S (λo ho=>(Q.2 o ho).2.1);have c10:=Js h M O H U ψ;have c11:=Mo h.a5 F;have c12:=yZ h.a5 F;have c13:=kj h h.a5.b.a7 b.1;have c14:=kj h h.a5.b.a9 b.1;by_cases hn:cg h=true;rotate_left
 ·have J:cg h=false:=by simpa using hn
  have c:=J;unfold cg at c;rw[t5]at c;cases L:gt h<;>rw[L]at q<;>cases e10:kG h<;>rw[e10]at c10
  all_goals
   repeat'(first|refine gE ?_|with_reducible refine Bf.D (λa=>?_) (λa=>?_)|refine C8 (aM _ _ _) ?_)
   all_goals first
    | exact Z0 (λz=>[B z]) ((by unfold eE;rw[J];simp))
    |(exfalso;omega)
 have c:=hn;unfold cg at c;rw[C0]at c;cases L:gt h<;>rw[L]at q
 ·repeat'(first|refine gE ?_|with_reducible refine Bf.D (λa=>?_) (λa=>?_)|refine C8 (aM _ _ _) ?_)
  all_goals first
   | exact Z0 (λz=>[B z]) ((by unfold eE;rw[L];simp))
   |(exfalso;omega)
 cases e10:kG h<;>rw[e10]at c10
 ·repeat'(first|refine gE ?_|with_reducible refine Bf.D (λa=>?_) (λa=>?_)|refine C8 (aM _ _ _) ?_)
  all_goals first
   | exact Z0 (λz=>[B z]) ((by unfold eE;rw[e10];simp))
   |(exfalso;omega)
 have K:eE h=sX h:=by grind [eE]
 rw[K];unfold sX;cases em:h.a2
 ·repeat'(first|refine gE ?_|with_reducible refine Bf.D (λa=>?_) (λa=>?_)|refine C8 (aM _ _ _) ?_|refine Bf.f em ?_)
  grind
 cases e12:jA h.a5<;>rw[e12]at c12
 all_goals
  repeat'(first|refine gE ?_|with_reducible (first|refine Bf.D (λa=>?_) (λa=>?_)|refine Bf.D (λa=>?_) (λa=>?_))|refine C8 (aM _ _ _) ?_|refine Bf.t em ?_)
  all_goals first
   | exact Z0 (λz=>[B z]) (ψ)
   |(exfalso;omega)
def sorted(xs:List Int):List Int:=xs.mergeSort λx y=>decide (x<=y)
theorem xD(xs:List Int):(sorted xs).length=xs.length:=List.length_mergeSort ..
theorem Jo{w a:World}{g:Nat}{d:Array Int}{h:Array Obj}{c:Array Value}{e:TypeId}{i:Nat × Nat}(j:w.heap[g]? = some (.cells c e i))(k:a=Sort.grow (Sort.putRow (Value.int .i64) (Sort.ahead w n) g 0 d) h) :
  a.os=w.os/\a.tape=w.tape/\a.output=w.output/\w.heap.size<=a.heap.size/\(∀b,b<w.heap.size->b≠g->a.heap[b]? = w.heap[b]?)/\a.heap[g]? = some (.cells (Sort.putCells (Value.int .i64) 0 d c) e i):=by
 subst k;have f:g<w.heap.size:=ψ
 have l:∀b,b<w.heap.size->(Sort.grow (Sort.putRow (Value.int .i64) (Sort.ahead w n) g 0 d) h).heap[b]? = if g=b then(w.heap[b]?).map (Sort.onCells (Sort.putCells (Value.int .i64) 0 d)) else w.heap[b]?:=λb o=>by grind [Go.Sort.heap_grow_old,Go.Sort.putRow,Go.Sort.mapBlock,Go.Sort.ahead]
 refine⟨rfl,rfl,rfl,?_,λb o p=>?_,?_⟩
 ·grind
 ·grind
 rw[l g f,CC rfl,j];rfl
theorem Rd(d:Array Int)(c:Array Value)(q:Nat):(Sort.putCells (Value.int .i64) 0 d c)[q]? = if q<d.size then(c[q]?).map (λ_=>.int .i64 d[q]!) else c[q]?:=by grind [Go.Sort.putCells]
theorem row1{w:World}{S Y:af}{c:C}{v:Value}(h:dN w S Y c v):cC w S Y [c] (λ_=>v):=by
 refine⟨λ_=>Y,λj a b=>?_,λ_ _ _ _ h=>h,ψ⟩
 all_goals grind
def UV(Y:af):Nat->af
 | 0=>Y
 | _+1=>NO
theorem Py(xs:List Int)(a:j<xs.length):xs.toArray[j]! = xs[j]:=ψ
theorem QC(xs:List Int)(hl:xs.length<=1048576*64):zzB 383 false [.mut none (aG .own xs)] [.mut none (aG .own (sorted xs))] (.tup []) []:=by
 refine⟨⟨_,Tryz.func383,by kernel_rfl,by kernel_rfl⟩,λw S V vs hS hV hVV N=>?_⟩
 match vs,N with
 | [v],⟨N,_⟩=>
  have t:=bC.rep1 (show bC w S (V 0) none [C.s .own (xs.map (rI .own))] v from N);generalize F:C.s .own (xs.map (rI .own))=cc at t;cases t with
  | nil _ o a ho=>
   cases hcc0:xs with
   | cons x xs'=>grind
   | nil=>
    refine(Tryz.slices_Sort_int_none a 0 w).mono λe p ⟨O,B⟩=>?_
    subst B;refine⟨.tuple #[],O,Cb _ _,NO,λ_=>NO,NO,λ_ _ h=>h.elim,λ_ _ _ h=>h.elim,λ_ _ h=>h.elim,λ_ _ _ _ _ h=>h.elim,λ_ _ _ h=>h.elim,λ_ _ h=>h.elim,λ_ _ _ h=>h.elim,⟨#[],rfl,trivial,rfl⟩,cC.nil _ _ _ _,⟨⟨rfl,λ_=>.slice a 0 0,rfl,row1 (by rw[show sorted []=[] from List.mergeSort_nil ..];exact .nil _ .own _ trivial)⟩,trivial⟩⟩
  | own _ o g k n D rows u f ho hn hk G H hF hu hf hd hc=>
   cases F;have P:n=xs.length:=ψ
   have Q:0<xs.length:=ω
   have R:k=1:=by
    have:=hk (rI .own xs[0]) ψ;exact this.symm
   subst R P;have y:∀j (l:j<xs.length),cel w g j=some (.int .i64 xs[j]):=λj l=>by
    have h1:=hu j ω;have T:=hc j 0 (rI .own xs[j]) (I xs[j]) ψ rfl;rw[Nat.mul_one,Nat.add_zero]at T;rw[h1];generalize u j=z at T;cases T
    rfl
   have U:g<w.heap.size:=ψ
   obtain⟨c,e0,fr,hg,-⟩:=Sort.cells_of_cell? (y 0 Q);have hH:Sort.Holds (Value.int .i64) w g 0 xs.toArray:=λj l=>by
    have J:j<xs.length:=by simpa using l
    refine⟨?_,?_⟩
    ·rw[Py xs J,O7];exact y j J
    rw[O7];exact Z0 Prod.fst (hF j ω).2.2
   refine(Tryz.slices_Sort_int g 0 D xs w hH U ω).mono λe p ⟨O,m,os,B⟩=>?_
   obtain⟨q1,q2,q3,q4,q5,q6⟩:=Jo hg B;have hsl:=xD xs;have hcel:∀q,cel w g q=c[q]?:=λq=>by grind [Go.World.cell?]
   have W:∀q,cel p g q=if q<xs.length then(c[q]?).map (λ_=>.int .i64 (sorted xs).toArray[q]!) else c[q]?:=λq=>by grind [Rd,Go.World.cell?,sorted]
   have d:∀q (X:q<xs.length),cel p g q=some (.int .i64 ((sorted xs)[q]'(ω))):=ψ
   have K:∀q,fro p g q=fro w g q:=λq=>by
    refine Prod.ext ?_ ?_
    ·grind [Go.World.frozen?]
    grind [mp,Go.Sort.putCells]
   have hother:∀b,b<w.heap.size->b≠g->∀o,cel p b o=cel w b o/\fro p b o=fro w b o:=λb hb L o=>by grind [Go.World.cell?,Go.World.frozen?,mp]
   have E:bG (λb o=>∃i,V i b o) w p:=by
    refine⟨q1,q2,q3,q4,ψ,λb o hb hn=>?_,λb o hb hn=>?_⟩
    all_goals grind
   refine⟨.tuple #[],O,E,NO,UV (V 0),NO,λ_ _ h=>h.elim,λi b o h=>?_,λ_ _ h=>h.elim,λi i' L b o h h'=>?_,λ_ _ _ h=>h.elim,λ_ _ h=>h.elim,λ_ _ _ _ h=>h.elim,⟨#[],rfl,trivial,rfl⟩,cC.nil _ _ _ _,⟨⟨rfl,λ_=>.slice (some ⟨g,0,none⟩) xs.length D,rfl,row1 ?_⟩,trivial⟩⟩
   ·cases i with
    | zero=>exact .inl ⟨0,h⟩
    | succ i=>exact h.elim
   ·cases i with
    | zero=>
     cases i' with
     | zero=>exact L rfl
     | succ i'=>exact h'.elim
    | succ i=>exact h.elim
   show dN p _ (V 0) _ _;refine .own _ .own g 1 xs.length D _ (λq=>(cel p g q).getD undef) (λ_=>NO) trivial ψ (λr hr=>by obtain⟨z,-,rfl⟩:=W4.1 hr;rfl) G H (λq X=>?_) (λq X=>?_) (λ_ _ _ _ h=>h.elim) (λ_ _ _ _ _ _ _ h=>h.elim) (λi j r c2 M l=>?_)
   ·obtain⟨a1,⟨z,a2,a3⟩,a4⟩:=hF q X
    refine⟨a1,?_,(K q).trans a4⟩;by_cases Y:q<xs.length
    ·exact⟨_,d q Y,rfl⟩
    grind
   ·grind
   rw[W3]at M;have Z:i<(sorted xs).length:=ψ
   rw[X2 Z]at M;simp only[O5,C1]at M;subst M
   match j,l with
   | 0,l=>
    simp only[rI,List.getElem?_cons_zero,C1]at l;subst l;simp only[Nat.mul_one,Nat.add_zero,d i ω,Option.getD_some];exact .v _ _ rfl
   | j+1,l=>simp[rI]at l
  | _=>cases F
set_option maxHeartbeats 8000000
def kq(s:aA)(k:Nat):Int:=16*s.R+(k:Nat)*csz s.Z
def eL(s:aA)(n:Nat):List Int:=((List.range n).filter λk=>bh s.a6 (k:Nat)).map (kq s)
theorem EL(h:bh s.a6 (n:Nat)=true):eL s (n+1)=eL s n++[kq s n]:=by grind [List.range_succ,eL]
theorem GF(h:bh s.a6 (n:Nat)=false):eL s (n+1)=eL s n:=by grind [List.range_succ,eL]
theorem u9(s:aA)(n:Nat):(eL s n).length<=n:=by grind [eL]
def fR(sp:List aA):List Int:=sp.flatMap λs=>eL s (slots s.Z).toNat
def live0(sp:List aA)(la:List aD):List Int:=fR sp++la.map λl=>16*l.R
def oW(sp:List aA)(la:List aD):List Int:=sorted (live0 sp la)
theorem ug(k:Int):0<=slots k/\slots k<=16:=by grind [slots]
def B7{k:Int}(h:0<=k/\k<=3):slots k*csz k=16:=by
 obtain rfl|rfl|rfl|rfl:k=0\/k=1\/k=2\/k=3:=ω
 all_goals decide
theorem yh(h:sp[i]? = some s):fR (sp.take (i+1))=fR (sp.take i)++eL s (slots s.Z).toNat:=by grind [X5,fR]
def rD(s:aA)(k:Nat)(a:bk s=true)(i:(k:Int)<slots s.Z):zzA 339 false [.val (some 3) (aA.enc .S s),.val none [I (k:Nat)]] .one [I (kq s k)]:=by
 have b:=g9 s;have c:=dl s.Z;have g:=ge s.Z;rw[a]at b;have d:=aL a;have j:=ug s.Z;rcases cW ⟨d.2.2.1,d.2.2.2⟩ with e|e|e|e<;>rw[e]at c
 all_goals
  refine fO 26 [(3,9,[17,18,19,20,21,22,23,24,25])] Tryz.func339 rfl ?_
  repeat'(first|refine gE ?_|with_reducible refine Bf.D (λh=>?_) (λh=>?_)|refine C8 (aI _ 0 _) ?_)
  all_goals exact Z0 (λz=>[I z]) (by unfold kq;rw[e];omega)
theorem y5(sp:List aA)(la:List aD)(c:dM sp)(d:ed la)(a:bx sp la=true):zzA 238 false [.val none (bW .S sp),.val none (ch .S la)] .one (aG .own (oW sp la)):=by
 have D:=c.1;have E:=d.1;have B:=rx sp la c d;rw[a]at B;obtain⟨o,F,-⟩:=eZ a;refine fP 56 [(383,[1])] [] Tryz.func238 rfl ?_ (.inr (bO _))
 refine ZP ?_
 refine CF (ι:=Nat × List Int) (λi=>[(1,.G .one (ch .S la)),(5,.G .one (aG .own i.2)),(16,.G .one (bW .S sp)),(17,.G .one [I (sp.length)]),(18,.G .one [I ((i.1:Nat):Int)])]) (λi=>i.1<=sp.length/\i.2=fR (sp.take i.1)/\i.2.length<=16*i.1) (λi=>sp.length - i.1) ((0,[])) ?_ (⟨X0 _,rfl,X0 _⟩) λi e=>?_
 ·exact wB
 obtain⟨i,S⟩:=i;obtain⟨e,p,G⟩:=e;simp only at e p G |-;by_cases j:i<sp.length
 ·have n:=ar j
  have g:bk (nth sp i)=true:=QP o j;have H:=ug (nth sp i).Z;have q:=fC g
  refine ZE ?_
  refine CF (ι:=Nat × List Int) (λk=>[(1,.G .one (ch .S la)),(5,.G .one (aG .own k.2)),(7,.G .box (aA.enc .S (nth sp i))),(8,.G .one [I ((k.1:Nat):Int)]),(16,.G .one (bW .S sp)),(17,.G .one [I (sp.length)]),(18,.G .one [I ((i:Nat):Int)])]) (λk=>k.1<=(slots (nth sp i).Z).toNat/\k.2=S++eL (nth sp i) k.1) (λk=>(slots (nth sp i).Z).toNat - k.1) ((0,S)) ?_ (⟨X0 _,by simp[eL]⟩) λk t=>?_
  ·exact wB
  obtain⟨k,S2⟩:=k;obtain⟨t,b⟩:=t;simp only at t b |-;have J:=u9 (nth sp i) k;have h:S2.length=S.length+(eL (nth sp i) k).length:=ψ
  by_cases M:k<(slots (nth sp i).Z).toNat
  ·have u:=gU (nth sp i).a6 (k:Nat) q.2
   cases K:bh (nth sp i).a6 (k:Nat)<;>rw[K]at u
   ·repeat'(first|refine gE ?_|refine C8 (ge _) ?_)
    (refine CD (k+1,S2) ⟨(by simp only;omega),(by grind [GF])⟩ (by simp only;omega) ?_;(exact wB))
   repeat'(first|refine gE ?_|refine C8 (ge _) ?_|refine C8 (rD (nth sp i) k g ω) ?_|refine CT cR (λr w=>by rw[V1.1 w];rfl) (by simp[bn,eP]) (by simp;omega) (by show _*8<=_;simp;omega) rfl ?_)
   ((conv=>whnf)
    refine CD (k+1,S2++[kq (nth sp i) k]) ⟨(by simp only;omega),(by grind [EL])⟩ (by simp only;omega) ?_
    (repeat'(first|exact trivial|rfl|exact CJ rfl (CJ (Z0 (C.s dA.own) (by simp[rI])) trivial)|refine CJ ?_ ?_)))
  obtain rfl:k=(slots (nth sp i).Z).toNat:=ω
  repeat'(first|refine gE ?_|refine C8 (ge _) ?_)
  (refine CD (i+1,S2) ⟨(by simp only;omega),(by grind [yh]),(by simp only;omega)⟩ (by simp only;omega) ?_;(exact wB))
 obtain rfl:i=sp.length:=ω
 rw[I5]at p
 refine ZE ?_
 refine CF (ι:=Nat × List Int) (λi=>[(5,.G .one (aG .own i.2)),(40,.G .one (ch .S la)),(41,.G .one [I (la.length)]),(42,.G .one [I ((i.1:Nat):Int)])]) (λi=>i.1<=la.length/\i.2=S++(la.take i.1).map (λl=>16*l.R)) (λi=>la.length - i.1) ((0,S)) ?_ ψ λi e=>?_
 ·exact wB
 obtain⟨i,S2⟩:=i;obtain⟨y,b⟩:=e;simp only at y b |-;have h:S2.length=S.length+i:=ψ
 by_cases j:i<la.length
 ·have n:=ar j
  have L:=vM a n
  repeat'(first|refine gE ?_|refine CT cR (λr w=>by rw[V1.1 w];rfl) (by simp[bn,eP]) (by simp;omega) (by show _*8<=_;simp;omega) rfl ?_)
  ((conv=>whnf)
   refine CD (i+1,S2++[16*(nth la i).R]) ⟨(by simp only;omega),(by grind [X5])⟩ (by simp only;omega) ?_
   (repeat'(first|exact trivial|rfl|exact CJ rfl (CJ (Z0 (C.s dA.own) (by simp[rI];omega)) trivial)|refine CJ ?_ ?_)))
 obtain rfl:i=la.length:=ω
 rw[I5]at b
 repeat'(first|refine gE ?_|refine CI (QC S2 ω) (.inl rfl) ?_)
 show _=aG .own (sorted (fR sp++la.map λl=>16*l.R));rw[<-p,<-b];rfl
def rr(b:List (Int × Value))(L:List Int):Prop:=∀a,mlook b a (.int .i64 0)=.int .i64 (L.count a:Nat)
theorem Ma(c:List (Int × Value))(a b:Int)(v d:Value):mlook (mput c a v) b d=if a=b then v else mlook c b d:=by
 induction c with
 | nil=>grind [mput,mlook]
 | cons p c e=>
  grind [mput,mlook]
def inc(b:List (Int × Value))(L:List Int)(a:Int):List (Int × Value):=mput b a (.int .i64 ((L.count a:Nat)+1))
def Md:rr [] []:=λ_=>rfl
theorem qF{d:List (Int × Value)}{L:List Int}(h:rr d L)(a:Int):rr (inc d L a) (L++[a]):=λb=>by
 unfold inc;rw[Ma,O6];by_cases c:a=b
 ·grind
 rw[CB c,h b,List.count_singleton,CB (by simpa using c)];rfl
theorem E7(h:ac)(d:dM h.K)(e:ed h.J)(b:List (Int × Value))(L:List Int)(a c:Int)(g:rr b L)(n:L.length<=1000000000) :
  zzB 236 false [.val none [I a],.val none [I c],.ptr [.m b],.ptr (ac.enc .S h)] [.val none [I a],.val none [I c],.ptr [.m (inc b L a)],.ptr (ac.enc .S h)] .one [B (dx h a c)]:=by
 have k:=lf h.K h.J a d e;obtain⟨i,-⟩:=oT h.K h.J a;have l:L.count a<=L.length:=List.count_le_length;unfold dx;generalize denotes h.K h.J a=w at k i |-;refine fM 41 [] [] [(0,0),(0,0),(0,0),(0,0)] Tryz.func236 rfl (λu q=>?_)
 repeat'(first|refine gP ?_|with_reducible (first|refine Bf.D (λj=>?_) (λj=>?_)|refine Bf.E (λj=>?_) (λj=>?_))|refine Ml.mk (g a) ?_|refine Mu.mk (es':=inc b L a) rfl ?_|refine CK (i (by assumption)).1 (aa (ar (i (by assumption)).2)) ?_)
 all_goals
  refine CH rfl ?_ ?_
  ·exact Z0 (λz=>[B z]) (ψ)
  exact wB
end Go.Proofs.YtiopgblagimpmaaGreat.Ab
