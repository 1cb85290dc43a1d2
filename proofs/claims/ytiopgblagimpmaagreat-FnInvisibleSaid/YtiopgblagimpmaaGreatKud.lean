/- When the parts of a heap are valid, as plain functions over its data. No condition. -/
import Derived.Test.YtiopgblagimpmaaGreatKuc
import Derived.Test.YtiopgblagimpmaaGreatKuShelf
set_option linter.unusedVariables false
set_option linter.defProp false
set_option linter.unusedSimpArgs false
set_option linter.constructorNameAsVariable false
namespace Go.Proofs.YtiopgblagimpmaaGreat.Ab
section
variable{α:Type}{l:List α}{p:α->Bool}{i:Nat}{x:α}
theorem eE(h:l[i]? = some x)(a:(l.take i).all p=true)(b:p x=true):(l.take (i+1)).all p=true:=by grind [Y7]
theorem mu(h:l[i]? = some x)(a:p x=false):l.all p=false:=ψ
theorem tN(a:l.length<=i)(b:(l.take i).all p=true):l.all p=true:=by grind [Y9]
end
variable{i:Nat}{α:Type}
theorem xe{β:Type}{a:List α}{b:List β}{x:α}{y:β}(h1:a[i]? = some x)(c:b[i]? = some y):(a.zip b)[i]? = some (x,y):=ψ
def nth[Inhabited α](xs:List α)(i:Nat):α:=xs.getD i default
theorem ax[Inhabited α]{xs:List α}(h:i<xs.length):xs[i]? = some (nth xs i):=by grind [nth]
theorem bk[Inhabited α]{xs:List α}{y:α}(h:xs[i]? = some y):nth xs i=y:=by grind [nth]
theorem au[Inhabited α]{xs:List α}(h:i<xs.length):nth xs i∈xs:=Z2 (ax h)
def dN(n:Nat)(p:Nat->Bool):Bool:=(List.range n).all p
variable{n:Nat}
theorem cC{p:Nat->Bool} : dN n p=true↔∀j,j<n->p j=true:=by
 unfold dN;simp
theorem cO{p:Nat->Bool}(h:dN n p=true)(a:p n=true):dN (n+1) p=true:=by grind [cC]
theorem dC{p:Nat->Bool}(a:i<n)(b:p i=false):dN n p=false:=by grind [cC]
theorem fw{p:Nat->Bool}(h:dN n p=true)(a:i<n):p i=true:=cC.1 h i a
def iU(u:Bool)(v:Int):Bool:=decide (0<=v/\v<=999)&&(u || decide (v=0))
def ip(r:List Int)(u:Bool):Bool:=decide (r.length=16)&&r.all (iU u)
def dA(f:bi):Bool:=decide (1<=f.V.length/\f.V.length<=32)&&(decide (f.a4.length=f.V.length)&&(f.V.zip f.a4).all λq=>ip q.1 q.2)
def iW{f:bi}{r:List Int}{u:Bool}(h1:f.V[i]? = some r)(a:f.a4[i]? = some u)(b:ip r u=false):dA f=false:=by
 unfold dA;rw[mu (p:=λq=>ip q.1 q.2) (xe h1 a) b];simp
variable{k:Nat}
theorem tP{r:List Int}{u:Bool}{v:Int}(h1:r[k]? = some v)(a:iU u v=false):ip r u=false:=by grind [ip]
theorem ET{f:bi}(h:dA f=true):1<=f.V.length/\f.V.length<=32/\f.a4.length=f.V.length:=by grind [dA]
def lx(a:Int)(e:bm):Bool:=decide (0<=e.e/\e.e<=2/\(e.e=0->e.j=0)/\(e.e≠0->0<=e.j/\e.j<a))
def gx(t:aL)(a:Int):Bool:=dN t.J.length (λi=>lx a (nth t.J i))&&decide (1<=t.J.length/\t.J.length<=32)
def QU(t:aL)(f:Int)(i:Nat):Bool:=decide ((nth t.J i).e≠0/\(nth t.J i).j=f)
def k7(t:aL)(f:Int)(n:Nat):List Int:=((List.range n).filter (QU t f)).map λ(i:Nat)=>(i:Int)
def pagesOn(t:aL)(f:Int):List Int:=k7 t f t.J.length
theorem Df{t:aL}{f:Int}(h:QU t f n=true):k7 t f (n+1)=k7 t f n++[(n:Int)]:=by grind [List.range_succ,k7]
theorem GE{t:aL}{f:Int}(h:QU t f n=false):k7 t f (n+1)=k7 t f n:=by grind [List.range_succ,k7]
theorem uz(t:aL)(f:Int)(n:Nat):(k7 t f n).length<=n:=by grind [k7]
def af(t:aL)(p:Int):bm:=if 0<=p/\p<t.J.length then nth t.J p.toNat else⟨0,0⟩
def pB(m:aV)(i:Nat):Bool:=nth m.X.a4 i == decide (0<(pagesOn m.Q (i:Int)).length)
def df(m:aV):Bool:=(dA m.X&&gx m.Q m.X.a4.length)&&dN m.X.a4.length (pB m)
def aF(k:am):Bool:=(dN k.w.length (λi=>decide (0<=nth k.w i))&&df k.F)&&decide (0<=k.Calls/\k.Calls<=100000/\k.w.length<=40)
def rangeIn(pages:Int)(r:aC):Bool:=decide (1<=r.a6/\r.a6<=pages/\0<=r.At/\r.At<=pages - r.a6)
def gC(pages:Int)(xs:List aC)(i:Nat):Bool:=rangeIn pages (nth xs i)&&decide (i=0\/(nth xs (i - 1)).At+(nth xs (i - 1)).a6<(nth xs i).At)
def bH(pages:Int)(xs:List aC):Bool:=dN xs.length (gC pages xs)&&decide (1<=pages/\pages<=32)
def Gm(page:Int)(r:aC):Bool:=decide (r.At<=page)&&decide (page<IntKind.i64.wrap (r.At+r.a6))
def lim(k:Int):Int:=if k=0 then 65535 else if k=1 then 255 else if k=2 then 15 else if k=3 then 3 else 0
def slots(k:Int):Int:=if k=0 then 16 else if k=1 then 8 else if k=2 then 4 else if k=3 then 2 else 0
def bh(s:aA):Bool:=decide (0<=s.R/\s.R<=31/\0<=s.d/\s.d<=3/\0<=s.a8/\s.a8<=lim s.d)
def fU(n:Int):Int:=if 9<=n/\n<=1000 then(n+15) / 16 else 0
def bK(l:aB):Bool:=decide (9<=l.q/\l.q<=1000/\l.a2=(l.q+15) / 16/\0<=l.R/\l.R<=32 - l.a2)
def lpgs(l:aB)(n:Nat):List Int:=(List.range n).map λ(i:Nat)=>l.R+i
def pgs(sp:List aA)(la:List aB):List Int:=sp.map (·.R)++la.flatMap λl=>lpgs l l.a2.toNat
def bG(sp:List aA)(la:List aB):Bool:=(sp.all bh&&la.all bK)&&decide (pgs sp la).Nodup
def cY(s:aA)(a:Int):Bool:=bh s&&decide (16*s.R<=a/\a<=16*s.R+15)
def aT(b i:Int):Bool:=decide (0<=b/\0<=i/\i<=15/\b / 2 ^ i.toNat % 2=1)
def bC(l:aB)(a:Int):Bool:=bK l&&decide (16*l.R<=a/\a<=16*l.R+l.q - 1)
def csz(k:Int):Int:=if 0<=k/\k<=3 then 2 ^ k.toNat else 0
def jo(s:aA)(a:Int):Int × Int:=if cY s a then((a - 16*s.R) / csz s.d,(a - 16*s.R) % csz s.d) else(-1,-1)
def o8(i:Nat)(s:aA)(a:Int):kb:=⟨if aT s.a8 ((a - 16*s.R) / csz s.d) then 1 else 2,i,(a - 16*s.R) / csz s.d,(a - 16*s.R) % csz s.d⟩
def denotes(sp:List aA)(la:List aB)(a:Int):kb:=
 match sp.findIdx? (cY · a) with
 | some i=>o8 i (nth sp i) a
 | none=>match la.findIdx? (bC · a) with
  | some i=>⟨3,i,0,a - 16*(nth la i).R⟩
  | none=>⟨0,0,0,0⟩
theorem wW{pr:α->Bool}{xs:List α}{y:α}(a:xs[i]? = some y)(b:pr y=true)(c:∀(j:Nat)(z:α),j<i->xs[j]? = some z->pr z=false):xs.findIdx? pr=some i:=by grind [X9]
theorem Ek{pr:α->Bool}{xs:List α}(a:xs.length<=i)(b:∀(j:Nat)(z:α),j<i->xs[j]? = some z->pr z=false):xs.findIdx? pr=none:=
 List.findIdx?_eq_none_iff.2 λz c=>by grind [List.mem_iff_getElem?]
theorem iE{pr:α->Bool}{xs:List α}{y:α}(a:xs[i]? = some y)(b:pr y=false)(c:∀(j:Nat)(z:α),j<i->xs[j]? = some z->pr z=false):∀(j:Nat)(z:α),j<i+1->xs[j]? = some z->pr z=false:=ψ
def cF(pr:α->Bool)(xs:List α):Int:=match xs.findIdx? pr with|some i=>(i:Nat)|none=>-1
theorem eD{pr:α->Bool}{xs:List α}{y:α}(a:xs[i]? = some y)(b:pr y=true)(c:∀(j:Nat)(z:α),j<i->xs[j]? = some z->pr z=false):cF pr xs=(i:Nat):=by
 unfold cF;rw[wW a b c]
theorem gQ{pr:α->Bool}{xs:List α}(a:xs.length<=i)(b:∀(j:Nat)(z:α),j<i->xs[j]? = some z->pr z=false):cF pr xs = -1:=by grind [Ek,cF]
theorem lQ(pr:α->Bool)(xs:List α):decide (cF pr xs≥0)=xs.any pr:=by grind [cF]
def meshable(s t:aA):Bool:=(bh s&&bh t)&&decide (s.d=t.d/\s.R≠t.R/\s.a8.toNat &&& t.a8.toNat=0)
def oB(n:Int)(p:cW):Bool:=decide (0<=p.To/\p.To<=n - 1/\0<=p.Addr)
def RU(z:Int):Bool:=decide (0<=z)
def ib(m:aM)(i:Nat):Bool:=(nth m.U i).all (oB m.U.length)&&(nth m.u i).all RU
def bA(m:aM):Nat->Int
 | 0=>0
 | i+1=>bA m i+((nth m.U i).length+(nth m.u i).length)
def bU(m:aM):Bool:=(decide (1<=m.U.length/\m.U.length<=4/\m.u.length=m.U.length)&&dN m.U.length (ib m))&&decide (bA m m.U.length<=30)
def aY(m:aM):List Int:=if bU m then(m.U.flatMap λl=>l.map (·.Addr))++m.u.flatten else []
def fp(a:Int)(y:aO):Bool:=decide (y.Addr=a)
def lI(xs:List aO)(i:Nat):Bool:=decide (0<=(nth xs i).d/\(nth xs i).d<=3/\0<=(nth xs i).Addr/\0<=(nth xs i).b5/\(i=0\/(nth xs (i - 1)).b5<=(nth xs i).b5))&&!(xs.take i).any (fp (nth xs i).Addr)
def quarCells(xs:List aO):Nat->Int
 | 0=>0
 | i+1=>quarCells xs i+csz (nth xs i).d
def gS(q:bD):Bool:=dN q.a5.length (lI q.a5)&&decide (0<=q.b7/\q.b7<=500/\quarCells q.a5 q.a5.length<=q.b7)
def mX(xs:List Int)(i:Nat):Bool:=decide (0<=nth xs i/\nth xs i<=15/\(i=0\/nth xs (i - 1)<nth xs i))
def fj(p:cH):Bool:=dN p.V.length (mX p.V)&&decide (0<=p.a3/\p.a3<=31/\0<=p.a0/\p.a0<=31/\p.a3≠p.a0)
def lu(j:dE):Bool:=fj j.W&&decide (0<=j.a9/\j.a9<=5/\0<=j.b/\j.b<=j.W.V.length)
def xW(j:dE):Bool:=decide (j.W.a3=0/\j.W.a0=0/\j.W.V.length=0/\j.a9=0/\j.b=0)
def bB(h:ac)(p:Int):List Int:=if(af h.G.F.Q p).e=0 then [] else pagesOn h.G.F.Q (af h.G.F.Q p).j
def ow(p:Int)(s:aA):Bool:=decide (s.R=p)
def jY(h:ac)(p:Int):Int:=cF (ow p) h.K
def aP(n:Int):Int:=if n<1 then -1 else if n<=1 then 0 else if n<=2 then 1 else if n<=4 then 2 else if n<=8 then 3 else -1
open Go.RowKit
set_option maxRecDepth 20000
set_option maxHeartbeats 2000000
def bn(n lo a:Int):zzA 110 false [.val none [I n],.val none [I lo],.val none [I a]] .one [B (decide (lo<=n/\n<=a))]:=by
 refine fO 15 [] Tryz.func110 rfl ?_
 repeat'(first|refine gP ?_|(conv=>whnf);first|with_reducible refine Bf.D (λb=>?_) (λb=>?_))
 all_goals exact C1 (λz=>[B z]) (by simp;try omega)
def aG(n lo a:Int):zzA 63 false [.val none [I n],.val none [I lo],.val none [I a]] .one [B (decide (lo<=n/\n<=a))]:=by
 refine fO 15 [] Tryz.func63 rfl ?_
 repeat'(first|refine gP ?_|(conv=>whnf);first|with_reducible refine Bf.D (λb=>?_) (λb=>?_))
 all_goals exact C1 (λz=>[B z]) (by simp;try omega)
def fH(k:Int):zzA 232 false [.val none [I k]] .one [B (decide (0<=k/\k<=3))]:=by
 refine fO 5 [] Tryz.func232 rfl ?_
 repeat'(first|refine gP ?_|(conv=>whnf);first|refine CB (aG k 0 3) ?_)
 rfl
theorem di(k:Int):zzA 106 false [.val none [I k]] .one [I (csz k)]:=by
 by_cases b:0<=k/\k<=3
 ·obtain rfl|rfl|rfl|rfl:k=0\/k=1\/k=2\/k=3:=ω
  all_goals
   refine fO 8 [] Tryz.func106 rfl ?_
   repeat'(first|refine gE ?_|(conv=>whnf);first|with_reducible refine Bf.D (λa=>?_) (λa=>?_)|refine CB (fH _) ?_|refine CQ (by decide) ?_|refine CM rfl ?_)
   exact C1 (λz=>[I z]) (by decide)
 refine fO 8 [] Tryz.func106 rfl ?_
 repeat'(first|refine gE ?_|(conv=>whnf);first|with_reducible refine Bf.D (λa=>?_) (λa=>?_)|refine CB (fH _) ?_)
 exact C1 (λz=>[I z]) (by grind [csz])
theorem gJ(k:Int):zzA 361 false [.val none [I k]] .one [I (csz k)]:=by
 by_cases b:0<=k/\k<=3
 ·obtain rfl|rfl|rfl|rfl:k=0\/k=1\/k=2\/k=3:=ω
  all_goals
   refine fO 9 [] Tryz.func361 rfl ?_
   repeat'(first|refine gE ?_|(conv=>whnf);first|with_reducible refine Bf.D (λa=>?_) (λa=>?_)|refine CB (bn _ 0 3) ?_|refine CQ (by decide) ?_|refine CM rfl ?_)
   exact C1 (λz=>[I z]) (by decide)
 refine fO 9 [] Tryz.func361 rfl ?_
 repeat'(first|refine gE ?_|(conv=>whnf);first|with_reducible refine Bf.D (λa=>?_) (λa=>?_)|refine CB (bn _ 0 3) ?_)
 exact C1 (λz=>[I z]) (by grind [csz])
theorem u9(xs:List Int)(a:Int)(h:xs.length<=9223372036854775807):zzA 353 false [.val none (aJ .S xs),.val none [I a]] .one [B (decide (a∈xs))]:=by
 refine fO 18 [] Tryz.func353 rfl ?_
 repeat'(first|refine gP ?_|fail)
 (conv=>whnf)
 refine CH (ι:=Nat) (λi=>[(0,.H .one (aJ .S xs)),(1,.H .one [I a]),(5,.H .one [I (i:Nat)])]) (λi=>i<=xs.length/\a∉xs.take i) (λi=>xs.length - i) 0 ?_ ψ λi c=>?_
 ·exact wB
 obtain⟨c,d⟩:=c;by_cases b:i<xs.length
 ·obtain⟨y,e⟩ : ∃y,xs[i]? = some y:=⟨_,I3 b⟩
  repeat'(first|refine gE ?_|(conv=>whnf);first|with_reducible (first|refine CF (aa e) ?_|refine Bf.E (λg=>?_) (λg=>?_)))
  ·exact C1 (λz=>[B z]) ψ
  (conv=>whnf)
  refine CG (i+1) ⟨ω,?_⟩ ω ?_
  ·grind [Y7]
  exact wB
 repeat'(first|refine gE ?_|fail)
 rw[Y9 ω]at d;exact C1 (λz=>[B z]) ψ
set_option maxHeartbeats 4000000
def good(k:Int)(s:List Int)(a:Int):Prop:=0<=a/\a<=511/\a.tmod (csz k)=0/\a∉s
instance (k:Int) (s:List Int) (a:Int):Decidable (good k s a):=by unfold good;exact inferInstance
def sI(k:Int):List Int->List Int->Option (List Int)
 | s,[]=>some s
 | s,a::l=>if good k s a then sI k (s++[a]) l else none
def fF(k:Nat)(s l:List Int):Option (List Int):=if l.length<=8/\k<=3 then sI k s l else none
def gI:Nat->List Int->List (List Int)->Option (List Int)
 | _,s,[]=>some s
 | k,s,l::ls=>(fF k s l).bind λa=>gI (k+1) a ls
def bI(c:aE):Bool:=decide (c.a.length=4)&&(gI 0 [] c.a).isSome
theorem rM(k:Int):∀(a s b:List Int),sI k s (a++b)=(sI k s a).bind λc=>sI k c b
 | [],s,b=>rfl
 | x::a,s,b=>by
  simp only[List.cons_append,sI];split
  ·exact rM k a _ b
  rfl
theorem pI:∀(a:List (List Int))(k:Nat)(s:List Int)(b:List (List Int)),gI k s (a++b)=(gI k s a).bind λc=>gI (k+a.length) c b
 | [],k,s,b=>rfl
 | l::a,k,s,b=>by
  simp only[List.cons_append,gI,Option.bind_assoc,List.length_cons]
  congr 1;funext c
  rw[pI a (k+1) c b,show k+1+a.length=k+(a.length+1) by omega]
variable{a:Int}{j:Nat}{l:List Int}
theorem Ll{k:Int}{b s:List Int}(c:l[j]? = some a)(h:sI k b (l.take j)=some s)(d:good k s a):sI k b (l.take (j+1))=some (s++[a]):=by grind [Y7,rM,sI]
theorem Q4{b s:List Int}(c:l[j]? = some a)(h:sI k b (l.take j)=some s)(d:¬good k s a):fF k b l=none:=by
 unfold fF;split
 all_goals grind [List.drop_eq_getElem_cons,List.take_append_drop,rM,sI]
theorem Du{k:Int} : ∀{l s b:List Int},sI k s l=some b->b.length=s.length+l.length
 | [],s,b,h=>by grind [sI]
 | a::l,s,b,h=>by
  simp only[sI]at h;split at h
  ·have:=Du h;grind
  cases h
theorem vg{a:List (List Int)}{s:List Int}(b:a[i]? = some l)(h:gI 0 [] (a.take i)=some s):gI 0 [] (a.take (i+1))=fF i s l:=by
 have c:=(O3.1 b).1;rw[Y7,b,Option.toList_some,pI,h];simp only[Option.bind_some,gI,W9,O2,Nat.min_eq_left (Nat.le_of_lt c)]
 grind
variable{c:aE}
theorem mb{s:List Int}(a:c.a[i]? = some l)(h:gI 0 [] (c.a.take i)=some s)(b:fF i s l=none):bI c=false:=by
 have d:=vg a h
 grind [List.take_append_drop,pI,bI]
theorem HF:∀{b:List (List Int)}{k:Nat}{s a:List Int},gI k s b=some a->a.length<=s.length+8*b.length
 | [],k,s,a,h=>by grind [gI]
 | l::b,k,s,a,h=>by
  simp only[gI]at h;unfold fF at h;split at h
  ·cases c:sI k s l with
   | none=>grind
   | some d=>
    rw[c]at h;have e:=Du c;have f:=HF (show gI (k+1) d b=some a from h)
    grind
  cases h
def Ro(h:i<=3):csz (i:Int)≠0:=by
 obtain rfl|rfl|rfl|rfl:i=0\/i=1\/i=2\/i=3:=ω
 all_goals decide
def dU : ∀r∈l.map (rI .own),r.length=1:=by
 intro r a;obtain⟨z,-,rfl⟩:=C6.1 a;rfl
theorem Fu(c:aE)(t:aE.sml c):zzA 214 false [.val (some 1) (aE.enc .S c)] .one [B (bI c)]:=by
 have G:=t.1;refine fO 60 [] Tryz.func214 rfl ?_
 repeat'(first|refine gP ?_|(conv=>whnf);first|with_reducible refine Bf.N (λe=>?_) (λe=>?_))
 ·exact C1 (λz=>[B z]) (by grind [bI])
 have H:c.a.length=4:=ω
 (conv=>whnf)
 refine CH (ι:=Nat × List Int) (λi=>[(1,.H .box (aE.enc .S c)),(3,.H .one (aJ .own i.2)),(4,.H .one [I (i.1:Nat)])]) (λi=>i.1<=4/\gI 0 [] (c.a.take i.1)=some i.2) (λi=>4 - i.1) (0,[]) ?_ ⟨Z0 _,rfl⟩ λi k=>?_
 ·exact wB
 obtain⟨i,s⟩:=i;obtain⟨k,b⟩:=k;simp only at k b |-;have g:=HF b;rw[O2]at g;simp only[List.length_nil]at g;by_cases u:i<4
 ·obtain⟨l,d⟩ : ∃l,c.a[i]? = some l:=(ψ)
  have w:l.length<=1048576:=t.2 l ψ
  repeat'(first|refine gE ?_|(conv=>whnf);first|with_reducible (first|refine CF (aa d) ?_|refine Bf.D (λe=>?_) (λe=>?_)))
  ·exact C1 (λz=>[B z]) (mb d b (by grind [fF])).symm
  have E:l.length<=8:=ω
  (conv=>whnf)
  refine CH (ι:=Nat × List Int) (λj=>[(1,.H .box (aE.enc .S c)),(3,.H .one (aJ .own j.2)),(4,.H .one [I (i:Nat)]),(5,.H .one [I (j.1:Nat)])]) (λj=>j.1<=l.length/\sI i s (l.take j.1)=some j.2) (λj=>l.length - j.1) (0,s) ?_ ⟨Z0 _,rfl⟩ λj n=>?_
  ·exact wB
  obtain⟨j,o⟩:=j;obtain⟨n,a⟩:=n;simp only at n a |-;have h:=Du a;rw[O2]at h;by_cases p:j<l.length
  ·obtain⟨y,q⟩ : ∃y,l[j]? = some y:=⟨_,I3 p⟩
   repeat'(first|refine gE ?_|(conv=>whnf);first|with_reducible (first|refine CF (aa d) ?_|refine CF (aa q) ?_|refine Bf.D (λe=>?_) (λe=>?_)|refine Bf.N (λe=>?_) (λe=>?_))|refine CB (bn y 0 511) ?_|refine CB (gJ (i:Nat)) ?_|refine CQ (Ro ω) ?_|refine CS rfl ?_|refine CN (u9 o y ω) ⟨⟨rfl,dm _⟩,⟨rfl,rfl⟩,trivial⟩ ?_|refine CU dU (λr F=>by rw[C2.1 F];rfl) (by simp[bp,fx]) (by simp;omega) (by simp only[O1];exact Eh (by simp;omega) (by decide)) rfl ?_)
   all_goals first
    | exact C1 (λz=>[B z]) (mb d b (Q4 q a λ⟨J,K,L,M⟩=>by first|contradiction|omega)).symm
    | ((conv=>whnf)
       refine CG (j+1,o++[y]) ⟨(by simp only;omega),Ll q a ⟨ω,ω,(by assumption),(by assumption)⟩⟩ (by simp only;omega) ?_
       (repeat'(first|exact trivial|rfl|exact CL rfl (CL (C1 (C.s dQ.own) (by simp[rI])) trivial)|refine CL ?_ ?_)))
  repeat'(first|refine gE ?_|(conv=>whnf);first|with_reducible refine CF (aa d) ?_)
  (conv=>whnf)
  rw[Y9 ω]at a;refine CG (i+1,o) ⟨(by simp only;omega),(by rw[vg d b];grind [fF])⟩ (by simp only;omega) ?_;exact wB
 repeat'(first|refine gE ?_|fail)
 rw[Y9 ω]at b;exact C1 (λz=>[B z]) (by grind [bI])
def gc(s:List Int):List (Int × Value):=s.map λa=>(a,.bool true)
theorem nR(a:Int):∀(s:List Int),mlook (gc s) a (.bool false)=.bool (decide (a∈s))
 | []=>by simp[gc,mlook]
 | x::s=>by
  have b:=nR a s
  grind [gc,mlook]
theorem vB{a:Int} : ∀{s:List Int},a∉s->gc (s++[a])=mput (gc s) a (.bool true)
 | [],_=>rfl
 | x::s,h=>by
  simp only[List.mem_cons,not_or]at h;have b:=vB h.2
  grind [gc,mput]
theorem oG(c:aE)(p:aE.sml c):zzA 80 false [.val (some 1) (aE.enc .S c)] .one [B (bI c)]:=by
 have w:=p.1;refine fO 54 [] Tryz.func80 rfl ?_
 repeat'(first|refine gP ?_|fail)
 (conv=>whnf)
 refine CH (ι:=Nat × List Int) (λi=>[(1,.H .box (aE.enc .S c)),(3,.H .one [.m (gc i.2)]),(10,.H .one (kn .S c.a)),(11,.H .one [I c.a.length]),(12,.H .one [I (i.1:Nat)])]) (λi=>i.1<=c.a.length/\gI 0 [] (c.a.take i.1)=some i.2) (λi=>c.a.length - i.1) (0,[]) ?_ ⟨Z0 _,rfl⟩ λi g=>?_
 ·exact wB
 obtain⟨i,s⟩:=i;obtain⟨g,d⟩:=g;simp only at g d |-;by_cases q:i<c.a.length
 ·obtain⟨l,b⟩ : ∃l,c.a[i]? = some l:=(ψ)
  have r:l.length<=1048576:=p.2 l ψ
  repeat'(first|refine gE ?_|(conv=>whnf);first|with_reducible (first|refine CF (aa b) ?_|refine Bf.D (λe=>?_) (λe=>?_))|refine CB (fH (i:Nat)) ?_)
  ·exact C1 (λz=>[B z]) (mb b d (by grind [fF])).symm
  rotate_left
  ·exact C1 (λz=>[B z]) (mb b d (by grind [fF])).symm
  have t:l.length<=8:=ω
  have u:i<=3:=ω
  (conv=>whnf)
  refine CH (ι:=Nat × List Int) (λj=>[(1,.H .box (aE.enc .S c)),(3,.H .one [.m (gc j.2)]),(4,.H .one [I (i:Nat)]),(10,.H .one (kn .S c.a)),(11,.H .one [I c.a.length]),(12,.H .one [I (i:Nat)]),(25,.H .one (aJ .S l)),(26,.H .one [I l.length]),(27,.H .one [I (j.1:Nat)])]) (λj=>j.1<=l.length/\sI i s (l.take j.1)=some j.2) (λj=>l.length - j.1) (0,s) ?_ ⟨Z0 _,rfl⟩ λj h=>?_
  ·exact wB
  obtain⟨j,k⟩:=j;obtain⟨h,a⟩:=h;simp only at h a |-;by_cases n:j<l.length
  ·obtain⟨y,o⟩ : ∃y,l[j]? = some y:=⟨_,I3 n⟩
   repeat'(first|refine gE ?_|(conv=>whnf);first|with_reducible (first|refine CF (aa b) ?_|refine CF (aa o) ?_|refine Bf.D (λe=>?_) (λe=>?_)|refine Bf.N (λe=>?_) (λe=>?_))|refine CB (aG y 0 511) ?_|refine CB (di (i:Nat)) ?_|refine CQ (Ro ω) ?_|refine CS rfl ?_|refine Ml.mk (nR y k) ?_|refine Mu.mk (vB (by assumption)) ?_)
   all_goals first
    | exact C1 (λz=>[B z]) (mb b d (Q4 o a λ⟨C,E,F,G⟩=>by first|contradiction|omega)).symm
    | ((conv=>whnf)
       refine CG (j+1,k++[y]) ⟨(by simp only;omega),Ll o a ⟨ω,ω,(by assumption),(by assumption)⟩⟩ (by simp only;omega) ?_
       (exact wA))
  repeat'(first|refine gE ?_|fail)
  (conv=>whnf)
  rw[Y9 ω]at a;refine CG (i+1,k) ⟨(by simp only;omega),(by rw[vg b d];grind [fF])⟩ (by simp only;omega) ?_;exact wB
 repeat'(first|refine gE ?_|fail)
 grind [X0,bI]
theorem LF:∀{b:List (List Int)}{k:Nat}{s c:List Int},gI k s b=some c->∀l∈b,l.length<=8
 | [],k,s,c,h,l,a=>by simp at a
 | x::b,k,s,c,h,l,a=>by
  simp only[gI]at h;unfold fF at h;split at h
  ·rename_i d
   rcases List.mem_cons.1 a with rfl|a
   ·exact d.1
   cases e:sI k s x with
   | none=>grind
   | some f=>rw[e]at h;exact LF (show gI (k+1) f b=some c from h) l a
  cases h
theorem HU(h:bI c=true):c.a.length=4/\∀l∈c.a,l.length<=8:=by grind [Option.isSome_iff_exists,LF,bI]
theorem Au(f:bi)(h:bi.sml f):zzA 86 false [.val (some 2) (bi.enc .S f)] .one [B (dA f)]:=by
 have C:=h.1.1;have E:f.a4.length<=1048576:=h.2;refine fO 61 [] Tryz.func86 rfl ?_
 repeat'(first|refine gP ?_|(conv=>whnf);first|with_reducible (first|refine Bf.D (λa=>?_) (λa=>?_)|refine Bf.N (λa=>?_) (λa=>?_))|refine CB (bn f.V.length 1 32) ?_)
 ·exact C1 (λz=>[B z]) (by grind [dA])
 rotate_left
 ·exact C1 (λz=>[B z]) (by grind [dA])
 have t:1<=f.V.length/\f.V.length<=32:=ω
 have w:f.a4.length=f.V.length:=ω
 (conv=>whnf)
 refine CH (ι:=Nat) (λi=>[(1,.H .box (bi.enc .S f)),(3,.H .one [I (i:Nat)])]) (λi=>i<=f.V.length/\((f.V.zip f.a4).take i).all (λq=>ip q.1 q.2)=true) (λi=>f.V.length - i) 0 ?_ ψ λi j=>?_
 ·exact wB
 obtain⟨j,y⟩:=j;by_cases g:i<f.V.length
 ·obtain⟨r,c⟩ : ∃r,f.V[i]? = some r:=⟨_,I3 g⟩
  obtain⟨u,b⟩ : ∃u,f.a4[i]? = some u:=⟨_,I3 ω⟩
  repeat'(first|refine gE ?_|(conv=>whnf);first|with_reducible (first|refine CF (aa c) ?_|refine Bf.N (λa=>?_) (λa=>?_)))
  ·exact C1 (λz=>[B z]) (iW c b (by grind [ip])).symm
  have l:r.length=16:=ω
  (conv=>whnf)
  refine CH (ι:=Nat) (λk=>[(1,.H .box (bi.enc .S f)),(3,.H .one [I (i:Nat)]),(4,.H .one [I (k:Nat)])]) (λk=>k<=16/\(r.take k).all (iU u)=true) (λk=>16 - k) 0 ?_ ψ λk n=>?_
  ·exact wB
  obtain⟨n,e⟩:=n;by_cases o:k<16
  ·obtain⟨v,d⟩ : ∃v,r[k]? = some v:=⟨_,I3 ω⟩
   cases u with
   | true=>
    repeat'(first|refine gE ?_|(conv=>whnf);first|with_reducible (first|refine CF (aa c) ?_|refine CF (aa b) ?_|refine CF (aa d) ?_|refine Bf.D (λa=>?_) (λa=>?_)|refine Bf.N (λa=>?_) (λa=>?_))|refine CB (bn v 0 999) ?_)
    all_goals first
     | exact C1 (λz=>[B z]) (iW c b (tP d (by first|(unfold iU;rw[X0 ω];rfl)|(unfold iU;rw[X0 (p:=v=0) ω];simp)))).symm
     | ((conv=>whnf)
        refine CG (ι:=Nat) (k+1) ⟨ω,eE d e (by unfold iU;first|(rw[O0 ω];rfl)|(rw[O0 (p:=0<=v/\v<=999) ω,O0 (p:=v=0) ω];rfl))⟩ ω ?_
        (exact wA))
   | false=>
    repeat'(first|refine gE ?_|(conv=>whnf);first|with_reducible (first|refine CF (aa c) ?_|refine CF (aa b) ?_|refine CF (aa d) ?_|refine Bf.D (λa=>?_) (λa=>?_)|refine Bf.N (λa=>?_) (λa=>?_))|refine CB (bn v 0 999) ?_)
    all_goals first
     | exact C1 (λz=>[B z]) (iW c b (tP d (by first|(unfold iU;rw[X0 ω];rfl)|(unfold iU;rw[X0 (p:=v=0) ω];simp)))).symm
     | ((conv=>whnf)
        refine CG (ι:=Nat) (k+1) ⟨ω,eE d e (by unfold iU;first|(rw[O0 ω];rfl)|(rw[O0 (p:=0<=v/\v<=999) ω,O0 (p:=v=0) ω];rfl))⟩ ω ?_
        (exact wA))
  repeat'(first|refine gE ?_|fail)
  (conv=>whnf)
  refine CG (i+1) ⟨ω,eE (xe c b) y (by grind [ip])⟩ ω ?_;exact wB
 repeat'(first|refine gE ?_|fail)
 exact C1 (λz=>[B z]) (by grind [List.length_zip,dA])
theorem rn(f:bi)(g:bi.sml f):zzA 242 false [.val (some 2) (bi.enc .S f)] .one [B (dA f)]:=by
 have C:=g.1.1;have E:f.a4.length<=1048576:=g.2;refine fO 55 [] Tryz.func242 rfl ?_
 repeat'(first|refine gP ?_|(conv=>whnf);first|with_reducible (first|refine Bf.D (λa=>?_) (λa=>?_)|refine Bf.N (λa=>?_) (λa=>?_))|refine CB (aG f.V.length 1 32) ?_)
 ·exact C1 (λz=>[B z]) (by grind [dA])
 rotate_left
 ·exact C1 (λz=>[B z]) (by grind [dA])
 have p:1<=f.V.length/\f.V.length<=32:=ω
 have t:f.a4.length=f.V.length:=ω
 (conv=>whnf)
 refine CH (ι:=Nat) (λi=>[(1,.H .box (bi.enc .S f)),(22,.H .one (kn .S f.V)),(23,.H .one [I (f.V.length)]),(24,.H .one [I ((i:Nat):Int)])]) (λi=>i<=f.V.length/\((f.V.zip f.a4).take i).all (λq=>ip q.1 q.2)=true) (λi=>f.V.length - i) (0) ?_ ψ λi j=>?_
 ·exact wB
 obtain⟨j,w⟩:=j;by_cases h:i<f.V.length
 ·obtain⟨r,c⟩ : ∃r,f.V[i]? = some r:=⟨_,I3 h⟩
  obtain⟨u,b⟩ : ∃u,f.a4[i]? = some u:=⟨_,I3 ω⟩
  have y:r.length<=1048576:=g.1.2 r ψ
  repeat'(first|refine gE ?_|(conv=>whnf);first|with_reducible (first|refine CF (aa c) ?_|refine Bf.N (λa=>?_) (λa=>?_)))
  ·exact C1 (λz=>[B z]) (iW c b (by grind [ip])).symm
  have l:r.length=16:=ω
  (conv=>whnf)
  refine CH (ι:=Nat) (λk=>[(1,.H .box (bi.enc .S f)),(3,.H .one [I ((i:Nat):Int)]),(22,.H .one (kn .S f.V)),(23,.H .one [I (f.V.length)]),(24,.H .one [I ((i:Nat):Int)]),(32,.H .one (aJ .S r)),(33,.H .one [I (r.length)]),(34,.H .one [I ((k:Nat):Int)])]) (λk=>k<=r.length/\(r.take k).all (iU u)=true) (λk=>r.length - k) (0) ?_ ψ λk n=>?_
  ·exact wB
  obtain⟨n,e⟩:=n;by_cases o:k<r.length
  ·obtain⟨v,d⟩ : ∃v,r[k]? = some v:=⟨_,I3 ω⟩
   cases u with
   | true=>
    repeat'(first|refine gE ?_|(conv=>whnf);first|with_reducible (first|refine CF (aa c) ?_|refine CF (aa b) ?_|refine CF (aa d) ?_|refine Bf.D (λa=>?_) (λa=>?_)|refine Bf.N (λa=>?_) (λa=>?_))|refine CB (aG v 0 999) ?_)
    all_goals first
     | exact C1 (λz=>[B z]) (iW c b (tP d (by unfold iU;grind))).symm
     | ((conv=>whnf)
        refine CG (ι:=Nat) (k+1) ⟨ω,eE d e (by unfold iU;grind)⟩ ω ?_
        (exact wA))
   | false=>
    repeat'(first|refine gE ?_|(conv=>whnf);first|with_reducible (first|refine CF (aa c) ?_|refine CF (aa b) ?_|refine CF (aa d) ?_|refine Bf.D (λa=>?_) (λa=>?_)|refine Bf.N (λa=>?_) (λa=>?_))|refine CB (aG v 0 999) ?_)
    all_goals first
     | exact C1 (λz=>[B z]) (iW c b (tP d (by unfold iU;grind))).symm
     | ((conv=>whnf)
        refine CG (ι:=Nat) (k+1) ⟨ω,eE d e (by unfold iU;grind)⟩ ω ?_
        (exact wA))
  repeat'(first|refine gE ?_|fail)
  (conv=>whnf)
  refine CG (i+1) ⟨ω,eE (xe c b) w (by grind [ip])⟩ ω ?_;exact wB
 repeat'(first|refine gE ?_|fail)
 exact C1 (λz=>[B z]) (by grind [List.length_zip,dA])
theorem Dt(t:aL)(b:Int)(e:aL.sml t):zzA 469 false [.val (some 1) (aL.enc .S t),.val none [I b]] .one [B (gx t b)]:=by
 have k:=e.1;refine fO 54 [] Tryz.func469 rfl ?_
 repeat'(first|refine gP ?_|fail)
 (conv=>whnf)
 refine CH (ι:=Nat) (λi=>[(1,.H .one [I (b)]),(2,.H .box (aL.enc .S t)),(5,.H .one [I ((i:Nat):Int)])]) (λi=>i<=t.J.length/\dN i (λj=>lx b (nth t.J j))=true) (λi=>t.J.length - i) 0 ?_ ⟨Z0 _,rfl⟩ λi c=>?_
 ·exact wB
 obtain⟨c,g⟩:=c;by_cases d:i<t.J.length
 ·have h:=ax d
  repeat'(first|refine gE ?_|(conv=>whnf);first|with_reducible (first|refine CF (aa h) ?_|refine Bf.D (λa=>?_) (λa=>?_)|refine Bf.N (λa=>?_) (λa=>?_)|refine Bf.E (λa=>?_) (λa=>?_))|refine CB (bn _ 0 2) ?_)
  all_goals first
   | exact C1 (λz=>[B z]) ((by symm;unfold gx;rw[dC d (X0 ψ)];rfl))
   | ((conv=>whnf);refine CG (i+1) ⟨ω,cO g (O0 ψ)⟩ ω ?_;(exact wB))
 repeat'(first|refine gE ?_|(conv=>whnf);first|refine CB (bn _ 1 32) ?_)
 obtain rfl:i=t.J.length:=ω
 exact C1 (λz=>[B z]) ((by grind [gx]))
theorem D4(t:aL)(b:Int)(e:aL.sml t):zzA 243 false [.val (some 1) (aL.enc .S t),.val none [I b]] .one [B (gx t b)]:=by
 have k:=e.1;refine fO 49 [] Tryz.func243 rfl ?_
 repeat'(first|refine gP ?_|fail)
 (conv=>whnf)
 refine CH (ι:=Nat) (λi=>[(1,.H .one [I (b)]),(2,.H .box (aL.enc .S t)),(8,.H .one (HW .S t.J)),(9,.H .one [I (t.J.length)]),(10,.H .one [I ((i:Nat):Int)])]) (λi=>i<=t.J.length/\dN i (λj=>lx b (nth t.J j))=true) (λi=>t.J.length - i) 0 ?_ ⟨Z0 _,rfl⟩ λi c=>?_
 ·exact wB
 obtain⟨c,g⟩:=c;by_cases d:i<t.J.length
 ·have h:=ax d
  repeat'(first|refine gE ?_|(conv=>whnf);first|with_reducible (first|refine CF (aa h) ?_|refine Bf.D (λa=>?_) (λa=>?_)|refine Bf.N (λa=>?_) (λa=>?_)|refine Bf.E (λa=>?_) (λa=>?_))|refine CB (aG _ 0 2) ?_)
  all_goals first
   | exact C1 (λz=>[B z]) ((by symm;unfold gx;rw[dC d (X0 ψ)];rfl))
   | ((conv=>whnf);refine CG (i+1) ⟨ω,cO g (O0 ψ)⟩ ω ?_;(exact wB))
 repeat'(first|refine gE ?_|(conv=>whnf);first|refine CB (aG _ 1 32) ?_)
 obtain rfl:i=t.J.length:=ω
 exact C1 (λz=>[B z]) ((by grind [gx]))
theorem gZ(t:aL)(f:Int)(c:aL.sml t):zzA 470 false [.val (some 1) (aL.enc .S t),.val none [I f]] .one (aJ .own (pagesOn t f)):=by
 have j:=c.1;refine fO 37 [] Tryz.func470 rfl ?_ (.inr (bQ _))
 repeat'(first|refine gP ?_|fail)
 (conv=>whnf)
 refine CH (ι:=Nat) (λi=>[(1,.H .one [I (f)]),(2,.H .box (aL.enc .S t)),(5,.H .one (aJ .own (k7 t f i))),(6,.H .one [I ((i:Nat):Int)])]) (λi=>i<=t.J.length) (λi=>t.J.length - i) (0) ?_ (Z0 _) λi k=>?_
 ·exact wB
 have d:=uz t f i;by_cases e:i<t.J.length
 ·have g:=ax e
  repeat'(first|refine gE ?_|(conv=>whnf);first|with_reducible (first|refine CF (aa g) ?_|refine Bf.D (λb=>?_) (λb=>?_)|refine Bf.N (λb=>?_) (λb=>?_)|refine Bf.E (λb=>?_) (λb=>?_))|refine CU dU (λr h=>by rw[C2.1 h];rfl) (by simp[bp,fx]) (by simp;omega) (by simp only[O1];exact Eh (by simp;omega) (by decide)) rfl ?_)
  all_goals first
   |(have a:QU t f i=true:=O0 ψ
     (conv=>whnf)
     refine CG (i+1) ω ω ?_;rw[Df a]
     (repeat'(first|exact trivial|rfl|exact CL rfl (CL (C1 (C.s dQ.own) (by simp[rI])) trivial)|refine CL ?_ ?_)))
   |(have a:QU t f i=false:=X0 ψ
     (conv=>whnf)
     refine CG (i+1) ω ω ?_;rw[GE a]
     (exact wA))
 repeat'(first|refine gE ?_|fail)
 obtain rfl:i=t.J.length:=ω
 rfl
theorem l7(t:aL)(f:Int)(c:aL.sml t):zzA 244 false [.val (some 1) (aL.enc .S t),.val none [I f]] .one (aJ .own (pagesOn t f)):=by
 have j:=c.1;refine fO 32 [] Tryz.func244 rfl ?_ (.inr (bQ _))
 repeat'(first|refine gP ?_|fail)
 (conv=>whnf)
 refine CH (ι:=Nat) (λi=>[(1,.H .one [I (f)]),(5,.H .one (aJ .own (k7 t f i))),(10,.H .one (HW .S t.J)),(11,.H .one [I (t.J.length)]),(12,.H .one [I ((i:Nat):Int)])]) (λi=>i<=t.J.length) (λi=>t.J.length - i) (0) ?_ (Z0 _) λi k=>?_
 ·exact wB
 have d:=uz t f i;by_cases e:i<t.J.length
 ·have g:=ax e
  repeat'(first|refine gE ?_|(conv=>whnf);first|with_reducible (first|refine CF (aa g) ?_|refine Bf.D (λb=>?_) (λb=>?_)|refine Bf.N (λb=>?_) (λb=>?_)|refine Bf.E (λb=>?_) (λb=>?_))|refine CU dU (λr h=>by rw[C2.1 h];rfl) (by simp[bp,fx]) (by simp;omega) (by simp only[O1];exact Eh (by simp;omega) (by decide)) rfl ?_)
  all_goals first
   |(have a:QU t f i=true:=O0 ψ
     (conv=>whnf)
     refine CG (i+1) ω ω ?_;rw[Df a]
     (repeat'(first|exact trivial|rfl|exact CL rfl (CL (C1 (C.s dQ.own) (by simp[rI])) trivial)|refine CL ?_ ?_)))
   |(have a:QU t f i=false:=X0 ψ
     (conv=>whnf)
     refine CG (i+1) ω ω ?_;rw[GE a]
     (exact wA))
 repeat'(first|refine gE ?_|fail)
 obtain rfl:i=t.J.length:=ω
 rfl
def me(t:aL)(p:Int)(b:aL.sml t):zzA 34 false [.val (some 1) (aL.enc .S t),.val none [I p]] .agg (bm.enc .own (af t p)):=by
 have d:=b.1;refine fO 18 [] Tryz.func34 rfl ?_ (.inr (bm.enc_fr _));by_cases a:0<=p/\p<t.J.length
 ·have c:=ax (xs:=t.J) (i:=p.toNat) ω
  repeat'(first|refine gE ?_|(conv=>whnf);first|refine CB (bn _ 0 _) ?_|refine CP a.1 (aa c) ?_)
  all_goals(unfold af;rw[CD a];rfl)
 repeat'(first|refine gE ?_|(conv=>whnf);first|refine CB (bn _ 0 _) ?_)
 all_goals(unfold af;rw[CC a];rfl)
def cz(t:aL)(p:Int)(b:aL.sml t):zzA 104 false [.val (some 1) (aL.enc .S t),.val none [I p]] .agg (bm.enc .own (af t p)):=by
 have d:=b.1;refine fO 18 [] Tryz.func104 rfl ?_ (.inr (bm.enc_fr _));by_cases a:0<=p/\p<t.J.length
 ·have c:=ax (xs:=t.J) (i:=p.toNat) ω
  repeat'(first|refine gE ?_|(conv=>whnf);first|refine CB (aG _ 0 _) ?_|refine CP a.1 (aa c) ?_)
  all_goals(unfold af;rw[CD a];rfl)
 repeat'(first|refine gE ?_|(conv=>whnf);first|refine CB (aG _ 0 _) ?_)
 all_goals(unfold af;rw[CC a];rfl)
def rF(t:aL)(f:Int):(pagesOn t f).length<=t.J.length:=uz ..
theorem zw(m:aV)(a:aV.sml m):zzA 350 false [.val (some 3) (aV.enc .S m)] .one [B (df m)]:=by
 have q:m.X.a4.length<=1048576:=a.1.2;have k:m.X.V.length<=1048576:=a.1.1.1;have b:=Au m.X a.1;have c:=Dt m.Q m.X.V.length a.2;cases d:dA m.X with
 | false=>
  rw[d]at b;refine fO 39 [(6,13,[26,27,28,29,30,31,32,33,34,35,36,37,38])] Tryz.func350 rfl ?_
  repeat'(first|refine gP ?_|(conv=>whnf);first|refine CB b ?_)
  exact C1 (λz=>[B z]) ((by grind [df]))
 | true=>
  have g:=ET d;rw[d]at b;cases e:gx m.Q m.X.a4.length with
  | false=>
   rw[show(m.X.V.length:Int)=m.X.a4.length by omega,e]at c;refine fO 39 [(6,13,[26,27,28,29,30,31,32,33,34,35,36,37,38])] Tryz.func350 rfl ?_
   repeat'(first|refine gP ?_|(conv=>whnf);first|refine CB b ?_|refine CB ((show(m.X.V.length:Int)=m.X.a4.length by omega) ▸ c) ?_)
   exact C1 (λz=>[B z]) ((by grind [df]))
  | true=>
   rw[show(m.X.V.length:Int)=m.X.a4.length by omega,e]at c;refine fO 39 [(6,13,[26,27,28,29,30,31,32,33,34,35,36,37,38])] Tryz.func350 rfl ?_
   repeat'(first|refine gP ?_|(conv=>whnf);first|refine CB b ?_|refine CB ((show(m.X.V.length:Int)=m.X.a4.length by omega) ▸ c) ?_)
   (conv=>whnf)
   refine CH (ι:=Nat) (λi=>[(1,.H .box (aV.enc .S m)),(3,.H .one [I ((i:Nat):Int)])]) (λi=>i<=m.X.a4.length/\dN i (pB m)=true) (λi=>m.X.a4.length - i) 0 ?_ ⟨Z0 _,rfl⟩ λi h=>?_
   ·exact wB
   obtain⟨h,l⟩:=h;by_cases j:i<m.X.a4.length
   ·have n:=ax j
    have o:=rF m.Q (i:Nat)
    repeat'(first|refine gE ?_|(conv=>whnf);first|with_reducible (first|refine CF (aa n) ?_|refine Bf.NB (λp=>?_) (λp=>?_))|refine CB (gZ m.Q (i:Nat) a.2) ?_)
    all_goals first
     | exact C1 (λz=>[B z]) ((by symm;unfold df;rw[d,e,dC j (by unfold pB;grind)];rfl))
     | ((conv=>whnf);refine CG (i+1) ⟨ω,cO l (by unfold pB;grind)⟩ ω ?_;(exact wB))
   repeat'(first|refine gE ?_|fail)
   obtain rfl:i=m.X.a4.length:=ω
   exact C1 (λz=>[B z]) ((by grind [df]))
theorem pR(m:aV)(b:aV.sml m):zzA 87 false [.val (some 3) (aV.enc .S m)] .one [B (df m)]:=by
 have o:m.X.a4.length<=1048576:=b.1.2;have a:=rn m.X b.1;have c:=D4 m.Q m.X.a4.length b.2;cases d:dA m.X with
 | false=>
  rw[d]at a;refine fO 37 [] Tryz.func87 rfl ?_
  repeat'(first|refine gP ?_|(conv=>whnf);first|refine CB a ?_)
  exact C1 (λz=>[B z]) ((by grind [df]))
 | true=>
  rw[d]at a;cases e:gx m.Q m.X.a4.length with
  | false=>
   rw[e]at c;refine fO 37 [] Tryz.func87 rfl ?_
   repeat'(first|refine gP ?_|(conv=>whnf);first|refine CB a ?_|refine CB c ?_)
   exact C1 (λz=>[B z]) ((by grind [df]))
  | true=>
   rw[e]at c;refine fO 37 [] Tryz.func87 rfl ?_
   repeat'(first|refine gP ?_|(conv=>whnf);first|refine CB a ?_|refine CB c ?_)
   (conv=>whnf)
   refine CH (ι:=Nat) (λi=>[(1,.H .box (aV.enc .S m)),(21,.H .one (PE .S m.X.a4)),(22,.H .one [I (m.X.a4.length)]),(23,.H .one [I ((i:Nat):Int)])]) (λi=>i<=m.X.a4.length/\dN i (pB m)=true) (λi=>m.X.a4.length - i) 0 ?_ ⟨Z0 _,rfl⟩ λi g=>?_
   ·exact wB
   obtain⟨g,j⟩:=g;by_cases h:i<m.X.a4.length
   ·have k:=ax h
    have l:=rF m.Q (i:Nat)
    repeat'(first|refine gE ?_|(conv=>whnf);first|with_reducible (first|refine CF (aa k) ?_|refine Bf.NB (λn=>?_) (λn=>?_))|refine CB (l7 m.Q (i:Nat) b.2) ?_)
    all_goals first
     | exact C1 (λz=>[B z]) ((by symm;unfold df;rw[d,e,dC h (by unfold pB;grind)];rfl))
     | ((conv=>whnf);refine CG (i+1) ⟨ω,cO j (by unfold pB;grind)⟩ ω ?_;(exact wB))
   repeat'(first|refine gE ?_|fail)
   obtain rfl:i=m.X.a4.length:=ω
   exact C1 (λz=>[B z]) ((by grind [df]))
def R7(k:am)(d:am.sml k):zzA 208 false [.val (some 5) (am.enc .S k)] .one [B (aF k)]:=by
 have n:k.w.length<=1048576:=d.2;have a:=zw k.F d.1;refine fO 31 [] Tryz.func208 rfl ?_
 repeat'(first|refine gP ?_|fail)
 (conv=>whnf)
 refine CH (ι:=Nat) (λi=>[(1,.H .box (am.enc .S k)),(3,.H .one [I ((i:Nat):Int)])]) (λi=>i<=k.w.length/\dN i (λj=>decide (0<=nth k.w j))=true) (λi=>k.w.length - i) 0 ?_ ⟨Z0 _,rfl⟩ λi e=>?_
 ·exact wB
 obtain⟨e,g⟩:=e;by_cases h:i<k.w.length
 ·have l:=ax h
  repeat'(first|refine gE ?_|(conv=>whnf);first|with_reducible (first|refine CF (aa l) ?_|refine Bf.D (λc=>?_) (λc=>?_)))
  all_goals first
   | exact C1 (λz=>[B z]) ((by symm;unfold aF;rw[dC h (X0 ω)];rfl))
   | ((conv=>whnf);refine CG (i+1) ⟨ω,cO g (O0 ω)⟩ ω ?_;(exact wB))
 obtain rfl:i=k.w.length:=ω
 cases b:df k.F with
 | false=>
  rw[b]at a
  repeat'(first|refine gE ?_|(conv=>whnf);first|refine CB a ?_)
  all_goals exact C1 (λz=>[B z]) ((by unfold aF;rw[b];simp))
 | true=>
  rw[b]at a
  repeat'(first|refine gE ?_|(conv=>whnf);first|with_reducible refine Bf.D (λc=>?_) (λc=>?_)|refine CB a ?_|refine CB (bn _ 0 100000) ?_)
  all_goals exact C1 (λz=>[B z]) ((by unfold aF;rw[b,g];simp only[Bool.true_and];first|exact decide_eq_decide.2 ω|(symm;exact X0 ω)|(symm;exact O0 ω)))
def mW(k:am)(b:am.sml k):zzA 26 false [.val (some 5) (am.enc .S k)] .one [B (aF k)]:=by
 have l:k.w.length<=1048576:=b.2;have g:=pR k.F b.1;refine fO 29 [] Tryz.func26 rfl ?_
 repeat'(first|refine gP ?_|fail)
 (conv=>whnf)
 refine CH (ι:=Nat) (λi=>[(1,.H .box (am.enc .S k)),(6,.H .one (aJ .S k.w)),(7,.H .one [I (k.w.length)]),(8,.H .one [I ((i:Nat):Int)])]) (λi=>i<=k.w.length/\dN i (λj=>decide (0<=nth k.w j))=true) (λi=>k.w.length - i) 0 ?_ ⟨Z0 _,rfl⟩ λi c=>?_
 ·exact wB
 obtain⟨c,d⟩:=c;by_cases e:i<k.w.length
 ·have h:=ax e
  repeat'(first|refine gE ?_|(conv=>whnf);first|with_reducible (first|refine CF (aa h) ?_|refine Bf.D (λa=>?_) (λa=>?_)))
  all_goals first
   | exact C1 (λz=>[B z]) ((by symm;unfold aF;rw[dC e (X0 ω)];rfl))
   | ((conv=>whnf);refine CG (i+1) ⟨ω,cO d (O0 ω)⟩ ω ?_;(exact wB))
 obtain rfl:i=k.w.length:=ω
 repeat'(first|refine gE ?_|(conv=>whnf);first|with_reducible refine Bf.D (λa=>?_) (λa=>?_)|refine CB g ?_|refine CB (aG _ 0 100000) ?_)
 all_goals exact C1 (λz=>[B z]) ((by unfold aF;rw[d];cases df k.F<;>simp only[Bool.true_and,Bool.false_and]<;>first|rfl|exact decide_eq_decide.2 ω|(symm;exact X0 ω)|(symm;exact O0 ω)))
def yc(pages:Int)(r:aC)(b:0<=pages/\pages<=1048576):zzA 351 false [.val none [I pages],.val (some 2) (aC.enc .S r)] .one [B (rangeIn pages r)]:=by
 refine fO 18 [] Tryz.func351 rfl ?_
 repeat'(first|refine gP ?_|(conv=>whnf);first|with_reducible refine Bf.D (λa=>?_) (λa=>?_)|refine CB (bn _ 1 _) ?_|refine CB (bn _ 0 _) ?_)
 all_goals exact C1 (λz=>[B z]) ((by unfold rangeIn;first|(symm;exact X0 ω)|exact decide_eq_decide.2 ω))
def yB(pages:Int)(r:aC)(b:0<=pages/\pages<=1048576):zzA 223 false [.val none [I pages],.val (some 2) (aC.enc .S r)] .one [B (rangeIn pages r)]:=by
 refine fO 18 [] Tryz.func223 rfl ?_
 repeat'(first|refine gP ?_|(conv=>whnf);first|with_reducible refine Bf.D (λa=>?_) (λa=>?_)|refine CB (aG _ 1 _) ?_|refine CB (aG _ 0 _) ?_)
 all_goals exact C1 (λz=>[B z]) ((by unfold rangeIn;first|(symm;exact X0 ω)|exact decide_eq_decide.2 ω))
theorem DL(k:Int):zzA 472 false [.val none [I k]] .one [I (slots k)]:=by
 by_cases b:0<=k/\k<=3
 ·obtain rfl|rfl|rfl|rfl:k=0\/k=1\/k=2\/k=3:=ω
  all_goals
   refine fO 9 [] Tryz.func472 rfl ?_
   repeat'(first|refine gE ?_|(conv=>whnf);first|with_reducible refine Bf.D (λa=>?_) (λa=>?_)|refine CB (bn _ 0 3) ?_|refine CQ (by decide) ?_|refine CM rfl ?_|refine CS rfl ?_)
   exact C1 (λz=>[I z]) (by decide)
 refine fO 9 [] Tryz.func472 rfl ?_
 repeat'(first|refine gE ?_|(conv=>whnf);first|with_reducible refine Bf.D (λa=>?_) (λa=>?_)|refine CB (bn _ 0 3) ?_)
 exact C1 (λz=>[I z]) (by grind [slots])
theorem gh(k:Int):zzA 335 false [.val none [I k]] .one [I (slots k)]:=by
 by_cases b:0<=k/\k<=3
 ·obtain rfl|rfl|rfl|rfl:k=0\/k=1\/k=2\/k=3:=ω
  all_goals
   refine fO 9 [] Tryz.func335 rfl ?_
   repeat'(first|refine gE ?_|(conv=>whnf);first|with_reducible refine Bf.D (λa=>?_) (λa=>?_)|refine CB (fH _) ?_|refine CB (di _) ?_|refine CQ (by decide) ?_|refine CM rfl ?_|refine CS rfl ?_)
   exact C1 (λz=>[I z]) (by decide)
 refine fO 9 [] Tryz.func335 rfl ?_
 repeat'(first|refine gE ?_|(conv=>whnf);first|with_reducible refine Bf.D (λa=>?_) (λa=>?_)|refine CB (fH _) ?_)
 exact C1 (λz=>[I z]) (by grind [slots])
def P9(k b:Int):Bool:=decide (0<=k/\k<=3/\0<=b/\b<=lim k)
theorem zW(k b:Int):zzA 471 false [.val none [I (slots k)],.val none [I b]] .one [B (P9 k b)]:=by
 by_cases d:0<=k/\k<=3
 ·obtain rfl|rfl|rfl|rfl:k=0\/k=1\/k=2\/k=3:=ω
  all_goals
   first|rw[show slots 0=16 from rfl]|rw[show slots 1=8 from rfl]|rw[show slots 2=4 from rfl]|rw[show slots 3=2 from rfl]
   refine fO 15 [] Tryz.func471 rfl ?_
   repeat'(first|refine gE ?_|(conv=>whnf);first|with_reducible refine Bf.D (λa=>?_) (λa=>?_)|refine CB (bn _ 1 16) ?_|refine CB (bn _ 0 _) ?_|refine CQ (by decide) ?_|refine CM (show _=(65536:Int) by decide) ?_|refine CM (show _=(65535:Int) by decide) ?_|refine CM (show _=(256:Int) by decide) ?_|refine CM (show _=(255:Int) by decide) ?_|refine CM (show _=(16:Int) by decide) ?_|refine CM (show _=(15:Int) by decide) ?_|refine CM (show _=(4:Int) by decide) ?_|refine CM (show _=(8:Int) by decide) ?_|refine CM (show _=(2:Int) by decide) ?_|refine CM (show _=(3:Int) by decide) ?_)
   all_goals exact C1 (λz=>[B z]) ((decide_eq_decide.2 (by simp[lim])))
 have c:slots k=0:=by grind [slots]
 rw[c];refine fO 15 [] Tryz.func471 rfl ?_
 repeat'(first|refine gE ?_|(conv=>whnf);first|with_reducible refine Bf.D (λa=>?_) (λa=>?_)|refine CB (bn _ 1 16) ?_)
 exact C1 (λz=>[B z]) ((by symm;exact X0 ω))
theorem rp(k b:Int):zzA 375 false [.val none [I (slots k)],.val none [I b]] .one [B (P9 k b)]:=by
 by_cases d:0<=k/\k<=3
 ·obtain rfl|rfl|rfl|rfl:k=0\/k=1\/k=2\/k=3:=ω
  all_goals
   first|rw[show slots 0=16 from rfl]|rw[show slots 1=8 from rfl]|rw[show slots 2=4 from rfl]|rw[show slots 3=2 from rfl]
   refine fO 14 [] Tryz.func375 rfl ?_
   repeat'(first|refine gE ?_|(conv=>whnf);first|with_reducible refine Bf.D (λa=>?_) (λa=>?_)|refine CB (aG _ 1 16) ?_|refine CB (aG _ 0 _) ?_|refine CQ (by decide) ?_|refine CM (fJ (by decide) (by decide)) ?_)
   all_goals exact C1 (λz=>[B z]) ((decide_eq_decide.2 (by simp[lim,IntKind.bits])))
 have c:slots k=0:=by grind [slots]
 rw[c];refine fO 14 [] Tryz.func375 rfl ?_
 repeat'(first|refine gE ?_|(conv=>whnf);first|with_reducible refine Bf.D (λa=>?_) (λa=>?_)|refine CB (aG _ 1 16) ?_)
 exact C1 (λz=>[B z]) ((by symm;exact X0 ω))
def iY(s:aA):zzA 352 false [.val (some 3) (aA.enc .S s)] .one [B (bh s)]:=by
 refine fO 14 [(1,12,[3,4,5,6,7,8,9,10,11,12,13,2])] Tryz.func352 rfl ?_
 repeat'(first|refine gP ?_|(conv=>whnf);first|with_reducible refine Bf.D (λa=>?_) (λa=>?_)|refine CB (bn _ 0 31) ?_|refine CB (DL _) ?_|refine CB (zW _ _) ?_)
 all_goals exact C1 (λz=>[B z]) ((by unfold bh;first|(symm;exact X0 ω)|exact decide_eq_decide.2 ω))
def gK(s:aA):zzA 225 false [.val (some 3) (aA.enc .S s)] .one [B (bh s)]:=by
 refine fO 19 [(1,17,[3,4,5,6,7,8,9,10,11,12,13,14,15,16,17,18,2])] Tryz.func225 rfl ?_
 repeat'(first|refine gP ?_|(conv=>whnf);first|with_reducible refine Bf.D (λa=>?_) (λa=>?_)|refine CB (aG _ 0 31) ?_|refine CB (fH _) ?_|refine CB (gh _) ?_|refine CB (rp _ _) ?_)
 all_goals exact C1 (λz=>[B z]) ((by unfold bh;first|(symm;exact X0 ω)|exact decide_eq_decide.2 ω))
section
variable{α:Type}{xs:List α}{p:α->Bool}{i:Nat}{y:α}
theorem Le(h:xs[i]? = some y)(a:p y=true):xs.any p=true:=S5.2 ψ
theorem Gv(h:xs[i]? = some y)(a:(xs.take i).any p=false)(b:p y=false):(xs.take (i+1)).any p=false:=by grind [Y7]
theorem iG[Inhabited α](a:0<i)(b:i<xs.length):xs[((i:Int) - 1).toNat]? = some (nth xs (i - 1)):=by
 rw[show((i:Int) - 1).toNat=i - 1 by omega];grind [ax]
end
theorem xz{pages:Int}{xs:List aC}(a:dN n (gC pages xs)=true)(b:i<n):1<=(nth xs i).a6/\(nth xs i).a6<=pages/\0<=(nth xs i).At/\(nth xs i).At<=pages - (nth xs i).a6:=by grind [fw,gC,rangeIn]
theorem AO(pages:Int)(xs:List aC)(d:0<=pages/\pages<=1048576)(k:gM xs):zzA 209 false [.val none [I pages],.val none (bF .S xs)] .one [B (bH pages xs)]:=by
 have n:=k.1;refine fO 46 [(4,32,[12,13,14,15,16,17,18,19,20,21,22,23,24,25,26,27,28,29,30,31,32,33,34,35,36,37,38,39,40,41,42,43])] Tryz.func209 rfl ?_
 repeat'(first|refine gP ?_|fail)
 (conv=>whnf)
 refine CH (ι:=Nat) (λi=>[(0,.H .one [I (pages)]),(1,.H .one (bF .S xs)),(5,.H .one [I ((i:Nat):Int)])]) (λi=>i<=xs.length/\dN i (gC pages xs)=true) (λi=>xs.length - i) 0 ?_ ⟨Z0 _,rfl⟩ λi e=>?_
 ·exact wB
 obtain⟨e,g⟩:=e;by_cases c:i<xs.length
 ·have j:=ax c
  have o:0<i->1<=(nth xs (i - 1)).a6/\(nth xs (i - 1)).a6<=pages/\0<=(nth xs (i - 1)).At/\(nth xs (i - 1)).At<=pages - (nth xs (i - 1)).a6:=λh=>xz g ω
  cases b:rangeIn pages (nth xs i) with
  | false=>
   have a:=yc pages (nth xs i) d;rw[b]at a
   repeat'(first|refine gE ?_|(conv=>whnf);first|with_reducible refine CF (aa j) ?_|refine CB a ?_)
   exact C1 (λz=>[B z]) ((by grind [dC,bH,gC]))
  | true=>
   have a:=yc pages (nth xs i) d;rw[b]at a
   repeat'(first|refine gE ?_|(conv=>whnf);first|with_reducible (first|refine CF (aa j) ?_|refine Bf.D (λl=>?_) (λl=>?_))|refine CB a ?_|refine CP ω (aa (iG ω c)) ?_)
   all_goals first
    | exact C1 (λz=>[B z]) ((by symm;unfold bH;rw[dC c (by unfold gC;rw[b,X0 ω];rfl)];rfl))
    | ((conv=>whnf);refine CG (i+1) ⟨ω,cO g (by unfold gC;rw[b,O0 ω];rfl)⟩ ω ?_;(exact wB))
 repeat'(first|refine gE ?_|(conv=>whnf);first|refine CB (bn pages 1 32) ?_)
 grind [bH]
theorem mS(pages:Int)(xs:List aC)(j:0<=pages/\pages<=1048576)(k:gM xs):zzA 75 false [.val none [I pages],.val none (bF .S xs)] .one [B (bH pages xs)]:=by
 have n:=k.1;refine fO 43 [(4,26,[14,15,16,17,18,19,20,21,22,23,24,25,26,27,28,29,30,31,32,33,34,35,36,37,38,39])] Tryz.func75 rfl ?_
 repeat'(first|refine gP ?_|fail)
 (conv=>whnf)
 refine CH (ι:=Nat) (λi=>[(0,.H .one [I (pages)]),(1,.H .one (bF .S xs)),(7,.H .one (bF .S xs)),(8,.H .one [I (xs.length)]),(9,.H .one [I ((i:Nat):Int)])]) (λi=>i<=xs.length/\dN i (gC pages xs)=true) (λi=>xs.length - i) 0 ?_ ⟨Z0 _,rfl⟩ λi d=>?_
 ·exact wB
 obtain⟨d,e⟩:=d;by_cases c:i<xs.length
 ·have g:=ax c
  have o:0<i->1<=(nth xs (i - 1)).a6/\(nth xs (i - 1)).a6<=pages/\0<=(nth xs (i - 1)).At/\(nth xs (i - 1)).At<=pages - (nth xs (i - 1)).a6:=λh=>xz e ω
  have a:=yB pages (nth xs i) j;cases b:rangeIn pages (nth xs i) with
  | false=>
   rw[b]at a
   repeat'(first|refine gE ?_|(conv=>whnf);first|with_reducible refine CF (aa g) ?_|refine CB a ?_)
   exact C1 (λz=>[B z]) ((by grind [dC,bH,gC]))
  | true=>
   rw[b]at a
   repeat'(first|refine gE ?_|(conv=>whnf);first|with_reducible (first|refine CF (aa g) ?_|refine Bf.D (λl=>?_) (λl=>?_))|refine CB a ?_|refine CP ω (aa (iG ω c)) ?_)
   all_goals first
    | exact C1 (λz=>[B z]) ((by symm;unfold bH;rw[dC c (by unfold gC;rw[b,X0 ω];rfl)];rfl))
    | ((conv=>whnf);refine CG (i+1) ⟨ω,cO e (by unfold gC;rw[b,O0 ω];rfl)⟩ ω ?_;(exact wB))
 repeat'(first|refine gE ?_|(conv=>whnf);first|refine CB (aG pages 1 32) ?_)
 grind [bH]
variable{z:Int}
def tdiv16(h:0<=z):z.tdiv 16=z / 16:=Int.tdiv_eq_ediv_of_nonneg h
theorem An(z:Int):zzA 370 false [.val none [I z]] .one [I (fU z)]:=by
 refine fO 10 [] Tryz.func370 rfl ?_;by_cases b:9<=z/\z<=1000
 ·repeat'(first|refine gE ?_|(conv=>whnf);first|with_reducible refine Bf.D (λa=>?_) (λa=>?_)|refine CB (bn z 9 1000) ?_|refine CQ (by decide) ?_|refine CM ((C1 _ (tdiv16 ω)).trans (fJ ω ω)) ?_)
  grind [fU]
 repeat'(first|refine gE ?_|(conv=>whnf);first|with_reducible refine Bf.D (λa=>?_) (λa=>?_)|refine CB (bn z 9 1000) ?_)
 all_goals exact C1 (λz=>[I z]) (by unfold fU;rw[CC b])
theorem mQ(z:Int):zzA 191 false [.val none [I z]] .one [I (fU z)]:=by
 refine fO 10 [] Tryz.func191 rfl ?_;by_cases b:9<=z/\z<=1000
 ·repeat'(first|refine gE ?_|(conv=>whnf);first|with_reducible refine Bf.D (λa=>?_) (λa=>?_)|refine CB (aG z 9 1000) ?_|refine CQ (by decide) ?_|refine CM ((C1 _ (tdiv16 ω)).trans (fJ ω ω)) ?_)
  grind [fU]
 repeat'(first|refine gE ?_|(conv=>whnf);first|with_reducible refine Bf.D (λa=>?_) (λa=>?_)|refine CB (aG z 9 1000) ?_)
 all_goals exact C1 (λz=>[I z]) (by unfold fU;rw[CC b])
def sZ(l:aB):zzA 354 false [.val (some 3) (aB.enc .S l)] .one [B (bK l)]:=by
 have b:=An l.q;by_cases c:9<=l.q/\l.q<=1000
 ·rw[show fU l.q=(l.q+15) / 16 from CD c]at b
  refine fO 22 [] Tryz.func354 rfl ?_
  repeat'(first|refine gP ?_|(conv=>whnf);first|with_reducible (first|refine Bf.D (λa=>?_) (λa=>?_)|refine Bf.E (λa=>?_) (λa=>?_))|refine CB b ?_|refine CB (bn _ 0 _) ?_)
  all_goals exact C1 (λz=>[B z]) ((by unfold bK;first|(symm;exact X0 ω)|exact decide_eq_decide.2 ω))
 rw[show fU l.q=0 from CC c]at b;refine fO 22 [] Tryz.func354 rfl ?_
 repeat'(first|refine gE ?_|(conv=>whnf);first|with_reducible refine Bf.D (λa=>?_) (λa=>?_)|refine CB b ?_)
 all_goals exact C1 (λz=>[B z]) ((by unfold bK;symm;exact X0 ω))
def nY(l:aB):zzA 226 false [.val (some 3) (aB.enc .S l)] .one [B (bK l)]:=by
 have b:=mQ l.q;by_cases c:9<=l.q/\l.q<=1000
 ·rw[show fU l.q=(l.q+15) / 16 from CD c]at b
  refine fO 22 [(1,20,[3,4,5,6,7,8,9,10,11,12,13,14,15,16,17,18,19,20,21,2])] Tryz.func226 rfl ?_
  repeat'(first|refine gE ?_|(conv=>whnf);first|with_reducible (first|refine Bf.D (λa=>?_) (λa=>?_)|refine Bf.E (λa=>?_) (λa=>?_))|refine CB b ?_|refine CB (aG _ 9 1000) ?_|refine CB (aG _ 0 _) ?_)
  all_goals exact C1 (λz=>[B z]) ((by unfold bK;first|(symm;exact X0 ω)|exact decide_eq_decide.2 ω))
 refine fO 22 [(1,20,[3,4,5,6,7,8,9,10,11,12,13,14,15,16,17,18,19,20,21,2])] Tryz.func226 rfl ?_
 repeat'(first|refine gE ?_|(conv=>whnf);first|with_reducible refine Bf.D (λa=>?_) (λa=>?_)|refine CB (aG _ 9 1000) ?_)
 all_goals exact C1 (λz=>[B z]) ((by unfold bK;symm;exact X0 ω))
theorem qx(h:0<=z/\z<=9223372036854775807):(BitVec.ofInt IntKind.i64.bits z).toNat=z.toNat:=by
 show(BitVec.ofInt 64 z).toNat=z.toNat
 grind
theorem and64{z1 z2:Int}(h1:0<=z1/\z1<=9223372036854775807)(a:0<=z2/\z2<=9223372036854775807):IntKind.i64.wrap ((BitVec.ofInt IntKind.i64.bits z1 &&& BitVec.ofInt IntKind.i64.bits z2).toNat:Nat)=((z1.toNat &&& z2.toNat:Nat):Int):=by grind [qx,Nat.and_le_left,fJ]
theorem JY(k:Int):lim k<=65535:=by grind [lim]
variable{s:aA}
def f8(h:bh s=true):0<=s.a8/\s.a8<=9223372036854775807:=by
 unfold bh at h;simp only[C0]at h;have:=JY s.d;omega
def AP(b c:aA):zzA 357 false [.val (some 3) (aA.enc .S b),.val (some 3) (aA.enc .S c)] .one [B (meshable b c)]:=by
 have g:=iY b;have h:=iY c;cases d:bh b<;>rw[d]at g<;>cases e:bh c<;>rw[e]at h
 all_goals
  refine fO 33 [] Tryz.func357 rfl ?_
  repeat'(first|refine gP ?_|(conv=>whnf);first|with_reducible (first|refine Bf.D (λa=>?_) (λa=>?_)|refine Bf.N (λa=>?_) (λa=>?_)|refine Bf.E (λa=>?_) (λa=>?_))|refine CB g ?_|refine CB h ?_|refine CM (and64 (f8 d) (f8 e)) ?_)
  all_goals exact C1 (λz=>[B z]) ((by unfold meshable;rw[d,e];first|rfl|(symm;exact X0 ω)|(rw[Y6];simp;omega)))
def np(b c:aA):zzA 229 false [.val (some 3) (aA.enc .S b),.val (some 3) (aA.enc .S c)] .one [B (meshable b c)]:=by
 have g:=gK b;have h:=gK c;cases d:bh b<;>rw[d]at g<;>cases e:bh c<;>rw[e]at h
 all_goals
  refine fO 33 [] Tryz.func229 rfl ?_
  repeat'(first|refine gP ?_|(conv=>whnf);first|with_reducible (first|refine Bf.D (λa=>?_) (λa=>?_)|refine Bf.N (λa=>?_) (λa=>?_)|refine Bf.E (λa=>?_) (λa=>?_))|refine CB g ?_|refine CB h ?_|refine CM (and64 (f8 d) (f8 e)) ?_)
  all_goals exact C1 (λz=>[B z]) ((by unfold meshable;rw[d,e];first|rfl|(symm;exact X0 ω)|(rw[Y6];simp;omega)))
def Bl(k:Int):zzA 384 false [.val none [I k]] .one [B (decide (0<=k/\k<=15))]:=by
 refine fO 5 [] Tryz.func384 rfl ?_
 repeat'(first|refine gP ?_|(conv=>whnf);first|refine CB (aG k 0 15) ?_)
 rfl
def Hk(p:cH)(e:cH.sml p):zzA 365 false [.val (some 3) (cH.enc .S p)] .one [B (fj p)]:=by
 have h:p.V.length<=1048576:=e;refine fO 51 [(4,25,[11,12,13,14,15,16,17,18,19,20,21,22,23,24,25,26,27,28,29,30,31,32,33,34,35])] Tryz.func365 rfl ?_
 repeat'(first|refine gP ?_|fail)
 (conv=>whnf)
 refine CH (ι:=Nat) (λi=>[(1,.H .box (cH.enc .S p)),(3,.H .one [I ((i:Nat):Int)])]) (λi=>i<=p.V.length/\dN i (mX p.V)=true) (λi=>p.V.length - i) 0 ?_ ⟨Z0 _,rfl⟩ λi c=>?_
 ·exact wB
 obtain⟨c,d⟩:=c;by_cases b:i<p.V.length
 ·have g:=ax b
  repeat'(first|refine gE ?_|(conv=>whnf);first|with_reducible (first|refine CF (aa g) ?_|refine Bf.D (λa=>?_) (λa=>?_))|refine CB (bn _ 0 15) ?_|refine CP ω (aa (iG ω b)) ?_)
  all_goals first
   | exact C1 (λz=>[B z]) ((by symm;unfold fj;rw[dC b (X0 ω)];rfl))
   | ((conv=>whnf);refine CG (i+1) ⟨ω,cO d (O0 ω)⟩ ω ?_;(exact wB))
 obtain rfl:i=p.V.length:=ω
 repeat'(first|refine gE ?_|(conv=>whnf);first|with_reducible (first|refine Bf.D (λa=>?_) (λa=>?_)|refine Bf.NB (λa=>?_) (λa=>?_)|refine Bf.N (λa=>?_) (λa=>?_))|refine CB (bn _ 0 31) ?_)
 all_goals exact C1 (λz=>[B z]) ((by unfold fj;rw[d];simp only[Bool.true_and];first|(symm;exact X0 ω)|exact decide_eq_decide.2 ω|(rw[Y6];simp;omega)))
def vZ(p:cH)(e:cH.sml p):zzA 239 false [.val (some 3) (cH.enc .S p)] .one [B (fj p)]:=by
 have h:p.V.length<=1048576:=e;refine fO 46 [] Tryz.func239 rfl ?_
 repeat'(first|refine gP ?_|fail)
 (conv=>whnf)
 refine CH (ι:=Nat) (λi=>[(1,.H .box (cH.enc .S p)),(6,.H .one (aJ .S p.V)),(7,.H .one [I (p.V.length)]),(8,.H .one [I ((i:Nat):Int)])]) (λi=>i<=p.V.length/\dN i (mX p.V)=true) (λi=>p.V.length - i) 0 ?_ ⟨Z0 _,rfl⟩ λi c=>?_
 ·exact wB
 obtain⟨c,d⟩:=c;by_cases b:i<p.V.length
 ·have g:=ax b
  repeat'(first|refine gE ?_|(conv=>whnf);first|with_reducible (first|refine CF (aa g) ?_|refine Bf.D (λa=>?_) (λa=>?_))|refine CB (Bl _) ?_|refine CP ω (aa (iG ω b)) ?_)
  all_goals first
   | exact C1 (λz=>[B z]) ((by symm;unfold fj;rw[dC b (X0 ω)];rfl))
   | ((conv=>whnf);refine CG (i+1) ⟨ω,cO d (O0 ω)⟩ ω ?_;(exact wB))
 obtain rfl:i=p.V.length:=ω
 repeat'(first|refine gE ?_|(conv=>whnf);first|with_reducible (first|refine Bf.D (λa=>?_) (λa=>?_)|refine Bf.NB (λa=>?_) (λa=>?_)|refine Bf.N (λa=>?_) (λa=>?_))|refine CB (aG _ 0 31) ?_)
 all_goals exact C1 (λz=>[B z]) ((by unfold fj;rw[d];simp only[Bool.true_and];first|(symm;exact X0 ω)|exact decide_eq_decide.2 ω|(rw[Y6];simp;omega)))
def Vc(j:dE)(a:dE.sml j):zzA 218 false [.val (some 5) (dE.enc .S j)] .one [B (lu j)]:=by
 have e:j.W.V.length<=1048576:=a;have b:=Hk j.W a;cases c:fj j.W<;>rw[c]at b
 all_goals
  refine fO 20 [] Tryz.func218 rfl ?_
  repeat'(first|refine gP ?_|(conv=>whnf);first|with_reducible refine Bf.D (λd=>?_) (λd=>?_)|refine CB b ?_|refine CB (bn _ 0 5) ?_|refine CB (bn _ 0 _) ?_)
  all_goals exact C1 (λz=>[B z]) ((by unfold lu;rw[c];first|rfl|(symm;exact X0 ω)|(rw[Y6];simp;omega)))
def yO(j:dE)(a:dE.sml j):zzA 84 false [.val (some 5) (dE.enc .S j)] .one [B (lu j)]:=by
 have e:j.W.V.length<=1048576:=a;have b:=vZ j.W a;cases c:fj j.W<;>rw[c]at b
 all_goals
  refine fO 20 [] Tryz.func84 rfl ?_
  repeat'(first|refine gP ?_|(conv=>whnf);first|with_reducible refine Bf.D (λd=>?_) (λd=>?_)|refine CB b ?_|refine CB (aG _ 0 5) ?_|refine CB (aG _ 0 _) ?_)
  all_goals exact C1 (λz=>[B z]) ((by unfold lu;rw[c];first|rfl|(symm;exact X0 ω)|(rw[Y6];simp;omega)))
theorem nt(l:aB)(k:Nat):lpgs l (k+1)=lpgs l k++[l.R+(k:Nat)]:=by grind [List.range_succ,lpgs]
theorem PK(l:aB)(k:Nat):(lpgs l k).length=k:=by unfold lpgs;simp
theorem QR(l:aB)(h:k<=n):lpgs l k <+: lpgs l n:=by
 induction n with
 | zero=>
  grind
 | succ n a=>
  grind [nt]
variable{la:List aB}
theorem sK(sp:List aA){l:aB}(h:la[i]? = some l):pgs sp (la.take (i+1))=pgs sp (la.take i)++lpgs l l.a2.toNat:=by grind [Y7,pgs]
theorem RT(sp:List aA)(la:List aB)(i:Nat):pgs sp (la.take i) <+: pgs sp la:=by grind [List.take_append_drop,pgs]
variable{p:Int}{S:List Int}
theorem UO{all:List Int}(h:(S++[p]) <+: all)(a:p∈S):decide all.Nodup=false:=by grind [List.nodup_append]
theorem oD(h:S.Nodup)(a:p∉S):(S++[p]).Nodup:=ψ
variable{sp:List aA}
theorem Gc(h:sp[i]? = some s):((sp.take i).map (·.R)++[s.R]) <+: pgs sp la:=by
 have a:(sp.take i).map (·.R)++[s.R]=(sp.take (i+1)).map (·.R):=by grind [Y7]
 rw[a];refine List.IsPrefix.trans ?_ (List.prefix_append ..)
 grind
theorem Dm{l:aB}(h:la[i]? = some l)(a:k<l.a2.toNat):(pgs sp (la.take i)++lpgs l k++[l.R+(k:Nat)]) <+: pgs sp la:=by
 refine List.IsPrefix.trans ?_ (RT sp la (i+1));rw[sK sp h,Z7,<-nt]
 grind [List.prefix_append_right_inj,QR]
theorem qZ(h:sp[i]? = some s)(a:bh s=false):bG sp la=false:=by grind [bG]
theorem pP{l:aB}(h:la[i]? = some l)(a:bK l=false):bG sp la=false:=by grind [bG]
theorem ly(h:(S++[p]) <+: pgs sp la)(a:p∈S):bG sp la=false:=by grind [UO,bG]
theorem t6(h1:sp.all bh=true)(a:la.all bK=true)(b:(pgs sp la).Nodup):bG sp la=true:=by grind [bG]
theorem aR{l:aB}(h:bK l=true):1<=l.a2/\l.a2<=63/\0<=l.R/\l.R<=31:=by grind [bK]
theorem Ad(sp:List aA)(la:List aB)(t:fL sp)(u:fG la):zzA 210 false [.val none (cw .S sp),.val none (cA .S la)] .one [B (bG sp la)]:=by
 have J:=t.1;have K:=u.1;refine fO 79 [] Tryz.func210 rfl ?_
 repeat'(first|refine gP ?_|fail)
 (conv=>whnf)
 refine CH (ι:=Nat × List Int) (λi=>[(0,.H .one (cw .S sp)),(1,.H .one (cA .S la)),(5,.H .one (aJ .own i.2)),(6,.H .one [I ((i.1:Nat):Int)])]) (λi=>i.1<=sp.length/\i.2=(sp.take i.1).map (·.R)/\(sp.take i.1).all bh=true/\i.2.Nodup) (λi=>sp.length - i.1) ((0,[])) ?_ ψ λi o=>?_
 ·exact wB
 obtain⟨i,S⟩:=i;obtain⟨o,q,d,h⟩:=o;simp only at o q d h |-;have L:S.length=i:=ψ
 by_cases w:i<sp.length
 ·have a:=ax w
  have j:=iY (nth sp i);cases e:bh (nth sp i)<;>rw[e]at j
  ·repeat'(first|refine gE ?_|(conv=>whnf);first|with_reducible refine CF (aa a) ?_|refine CB j ?_)
   exact C1 (λz=>[B z]) ((qZ a e).symm)
  repeat'(first|refine gE ?_|(conv=>whnf);first|with_reducible (first|refine CF (aa a) ?_|refine Bf.D (λy=>?_) (λy=>?_))|refine CB j ?_|refine CN (u9 S _ ω) ⟨⟨rfl,dm _⟩,⟨rfl,rfl⟩,trivial⟩ ?_|refine CU dU (λr E=>by rw[C2.1 E];rfl) (by simp[bp,fx]) (by simp;omega) (by simp only[O1];exact Eh (by simp;omega) (by decide)) rfl ?_)
  all_goals first
   | exact C1 (λz=>[B z]) ((ly (S:=S) (by rw[q];exact Gc a) (by assumption)).symm)
   | ((conv=>whnf)
      refine CG (i+1,S++[(nth sp i).R]) ⟨(by simp only;omega),(by simp only;rw[q,Y7,a];simp),(eE a d e),oD h (by assumption)⟩ (by simp only;omega) ?_
      (repeat'(first|exact trivial|rfl|exact CL rfl (CL (C1 (C.s dQ.own) (by simp[rI])) trivial)|refine CL ?_ ?_)))
 obtain rfl:i=sp.length:=ω
 rw[I7]at d q
 repeat'(first|refine gE ?_|fail)
 (conv=>whnf)
 refine CH (ι:=Nat × List Int) (λi=>[(1,.H .one (cA .S la)),(5,.H .one (aJ .own i.2)),(7,.H .one [I ((i.1:Nat):Int)])]) (λi=>i.1<=la.length/\i.2=pgs sp (la.take i.1)/\(la.take i.1).all bK=true/\i.2.Nodup/\i.2.length<=1048576+64*i.1) (λi=>la.length - i.1) ((0,S)) ?_ (⟨Z0 _,by grind [pgs],rfl,h,by simp only;omega⟩) λi o=>?_
 ·exact wB
 obtain⟨i,S2⟩:=i;obtain⟨F,l,b,g,G⟩:=o;simp only at F l b g G |-;by_cases w:i<la.length
 ·have a:=ax w
  have j:=sZ (nth la i);cases e:bK (nth la i)<;>rw[e]at j
  ·repeat'(first|refine gE ?_|(conv=>whnf);first|with_reducible refine CF (aa a) ?_|refine CB j ?_)
   exact C1 (λz=>[B z]) ((pP a e).symm)
  have M:=aR e
  repeat'(first|refine gE ?_|(conv=>whnf);first|with_reducible refine CF (aa a) ?_|refine CB j ?_)
  (conv=>whnf)
  refine CH (ι:=Nat × List Int) (λk=>[(1,.H .one (cA .S la)),(5,.H .one (aJ .own k.2)),(7,.H .one [I ((i:Nat):Int)]),(8,.H .one [I ((k.1:Nat):Int)])]) (λk=>k.1<=(nth la i).a2.toNat/\k.2=S2++lpgs (nth la i) k.1/\k.2.Nodup) (λk=>(nth la i).a2.toNat - k.1) ((0,S2)) ?_ (⟨Z0 _,by simp[lpgs],g⟩) λk H=>?_
  ·exact wB
  obtain⟨k,p⟩:=k;obtain⟨H,n,c⟩:=H;simp only at H n c |-;have N:p.length=S2.length+k:=by grind [PK]
  by_cases O:k<(nth la i).a2.toNat
  ·repeat'(first|refine gE ?_|(conv=>whnf);first|with_reducible (first|refine CF (aa a) ?_|refine Bf.D (λy=>?_) (λy=>?_))|refine CN (u9 p _ ω) ⟨⟨rfl,dm _⟩,⟨rfl,rfl⟩,trivial⟩ ?_|refine CU dU (λr E=>by rw[C2.1 E];rfl) (by simp[bp,fx]) (by simp;omega) (by show _*8<=_;simp;omega) rfl ?_)
   all_goals first
    | exact C1 (λz=>[B z]) ((ly (S:=p) (by rw[n,l];exact Dm a O) (by assumption)).symm)
    | ((conv=>whnf)
       refine CG (k+1,p++[(nth la i).R+(k:Nat)]) ⟨(by simp only;omega),(by simp only;rw[n,nt,Z7]),oD c (by assumption)⟩ (by simp only;omega) ?_
       (repeat'(first|exact trivial|rfl|exact CL rfl (CL (C1 (C.s dQ.own) (by simp[rI])) trivial)|refine CL ?_ ?_)))
  obtain rfl:k=(nth la i).a2.toNat:=ω
  repeat'(first|refine gE ?_|(conv=>whnf);first|with_reducible refine CF (aa a) ?_)
  ((conv=>whnf);refine CG (i+1,p) ⟨(by simp only;omega),(by grind [sK]),(eE a b e),c,(by simp only;omega)⟩ (by simp only;omega) ?_;(exact wB))
 obtain rfl:i=la.length:=ω
 rw[I7]at b l
 repeat'(first|refine gE ?_|fail)
 exact C1 (λz=>[B z]) ((t6 d b ψ).symm)
def ins(S:List Int)(p:Int):List Int:=if p∈S then S else S++[p]
theorem Mi{p:Int} : ∀{S:List Int},p∈S->mput (gc S) p (.bool true)=gc S
 | x::S,h=>by
  simp only[gc,O8,mput];by_cases a:x=p
  ·rw[CD a,a]
  rw[CC a];have:=Mi (S:=S) ((List.mem_cons.1 h).resolve_left λe=>a e.symm)
  grind [gc]
theorem yF(S:List Int)(p:Int):gc (ins S p)=mput (gc S) p (.bool true):=by grind [Mi,vB,ins]
theorem QG(S:List Int)(p:Int):zzB 224 false [.val none [I p],.ptr [.m (gc S)]] [.val none [I p],.ptr [.m (gc (ins S p))]] .one [B (decide (p∉S))]:=by
 refine fM 12 [] [] [(0,0),(0,0)] Tryz.func224 rfl (λu q=>?_)
 repeat'(first|refine gP ?_|(conv=>whnf);first|refine Ml.mk (nR p S) ?_|refine Mu.mk (yF S p) ?_)
 refine CO rfl ?_ ?_
 ·grind
 exact wB
theorem ro(sp:List aA)(la:List aB)(t:fL sp)(u:fG la):zzA 76 false [.val none (cw .S sp),.val none (cA .S la)] .one [B (bG sp la)]:=by
 have F:=t.1;have G:=u.1;refine fP 54 [(224,[0,2])] [] Tryz.func76 rfl ?_
 repeat'(first|refine gP ?_|fail)
 (conv=>whnf)
 refine CH (ι:=Nat × List Int) (λi=>[(1,.H .one (cA .S la)),(5,.H .box [.m (gc i.2)]),(6,.fn 224 [5]),(14,.H .one (cw .S sp)),(15,.H .one [I (sp.length)]),(16,.H .one [I ((i.1:Nat):Int)])]) (λi=>i.1<=sp.length/\i.2=(sp.take i.1).map (·.R)/\(sp.take i.1).all bh=true/\i.2.Nodup) (λi=>sp.length - i.1) ((0,[])) ?_ ψ λi p=>?_
 ·exact wB
 obtain⟨i,S⟩:=i;obtain⟨p,r,e,j⟩:=p;simp only at p r e j |-;by_cases w:i<sp.length
 ·have c:=ax w
  have l:=gK (nth sp i);cases g:bh (nth sp i)<;>rw[g]at l
  ·repeat'(first|refine gE ?_|(conv=>whnf);first|with_reducible refine CF (aa c) ?_|refine CB l ?_)
   exact C1 (λz=>[B z]) ((qZ c g).symm)
  repeat'(first|refine gE ?_|(conv=>whnf);first|with_reducible (first|refine CF (aa c) ?_|refine Bf.D (λy=>?_) (λy=>?_))|refine CB l ?_|refine CK (QG S _) (.inl rfl) ?_)
  all_goals first
   | exact C1 (λz=>[B z]) ((ly (S:=S) (by rw[r];exact Gc c) ψ).symm)
   |(have a:(nth sp i).R∉S:=by assumption
     (conv=>whnf)
     refine CG (i+1,ins S (nth sp i).R) ⟨(by simp only;omega),(by simp only;unfold ins;rw[CC a,r,Y7,c];simp),(eE c e g),(by simp only;unfold ins;rw[CC a];exact oD j a)⟩ (by simp only;omega) ?_
     (exact wA))
 obtain rfl:i=sp.length:=ω
 rw[I7]at e r
 repeat'(first|refine gE ?_|fail)
 (conv=>whnf)
 refine CH (ι:=Nat × List Int) (λi=>[(5,.H .box [.m (gc i.2)]),(6,.fn 224 [5]),(31,.H .one (cA .S la)),(32,.H .one [I (la.length)]),(33,.H .one [I ((i.1:Nat):Int)])]) (λi=>i.1<=la.length/\i.2=pgs sp (la.take i.1)/\(la.take i.1).all bK=true/\i.2.Nodup) (λi=>la.length - i.1) ((0,S)) ?_ (⟨Z0 _,by grind [pgs],rfl,j⟩) λi p=>?_
 ·exact wB
 obtain⟨i,S2⟩:=i;obtain⟨C,n,b,h⟩:=p;simp only at C n b h |-;by_cases w:i<la.length
 ·have c:=ax w
  have l:=nY (nth la i);cases g:bK (nth la i)<;>rw[g]at l
  ·repeat'(first|refine gE ?_|(conv=>whnf);first|with_reducible refine CF (aa c) ?_|refine CB l ?_)
   exact C1 (λz=>[B z]) ((pP c g).symm)
  have H:=aR g
  repeat'(first|refine gE ?_|(conv=>whnf);first|with_reducible refine CF (aa c) ?_|refine CB l ?_)
  (conv=>whnf)
  refine CH (ι:=Nat × List Int) (λk=>[(5,.H .box [.m (gc k.2)]),(6,.fn 224 [5]),(10,.H .box (aB.enc .S (nth la i))),(11,.H .one [I ((k.1:Nat):Int)]),(31,.H .one (cA .S la)),(32,.H .one [I (la.length)]),(33,.H .one [I ((i:Nat):Int)])]) (λk=>k.1<=(nth la i).a2.toNat/\k.2=S2++lpgs (nth la i) k.1/\k.2.Nodup) (λk=>(nth la i).a2.toNat - k.1) ((0,S2)) ?_ (⟨Z0 _,by simp[lpgs],h⟩) λk E=>?_
  ·exact wB
  obtain⟨k,q⟩:=k;obtain⟨E,o,d⟩:=E;simp only at E o d |-;by_cases J:k<(nth la i).a2.toNat
  ·repeat'(first|refine gE ?_|(conv=>whnf);first|with_reducible refine Bf.D (λy=>?_) (λy=>?_)|refine CK (QG q _) (.inl rfl) ?_)
   all_goals first
    | exact C1 (λz=>[B z]) ((ly (S:=q) (by rw[o,n];exact Dm c J) ψ).symm)
    |(have a:(nth la i).R+(k:Nat)∉q:=by assumption
      (conv=>whnf)
      refine CG (k+1,ins q ((nth la i).R+(k:Nat))) ⟨(by simp only;omega),(by simp only;unfold ins;rw[CC a,o,nt,Z7]),(by simp only;unfold ins;rw[CC a];exact oD d a)⟩ (by simp only;omega) ?_
      (exact wA))
  obtain rfl:k=(nth la i).a2.toNat:=ω
  repeat'(first|refine gE ?_|fail)
  ((conv=>whnf);refine CG (i+1,q) ⟨(by simp only;omega),(by grind [sK]),(eE c b g),d⟩ (by simp only;omega) ?_;(exact wB))
 obtain rfl:i=la.length:=ω
 rw[I7]at b n
 repeat'(first|refine gE ?_|fail)
 exact C1 (λz=>[B z]) ((t6 e b ψ).symm)
theorem aK(h:bh s=true):0<=s.R/\s.R<=31/\0<=s.d/\s.d<=3:=by grind [bh]
theorem bZ{k:Int}(h:0<=k/\k<=3):csz k=1\/csz k=2\/csz k=4\/csz k=8:=by
 obtain rfl|rfl|rfl|rfl:k=0\/k=1\/k=2\/k=3:=ω
 all_goals decide
def mn{x y:Int}(h:0<=x):x.tdiv y=x / y:=Int.tdiv_eq_ediv_of_nonneg h
def fV{x y:Int}(h:0<=x):x.tmod y=x % y:=Int.tmod_eq_emod_of_nonneg h
def S2(p:Int × Int):List C:=[I p.1,I p.2]
variable{b:Int}
theorem Dd{p:Int × Int}(h:(a,b)=p):[I a,I b]=S2 p:=by subst h;rfl
theorem wo(s:aA)(a:Int)(k:pd a):zzA 473 false [.val (some 3) (aA.enc .S s),.val none [I a]] (.tup [none,none]) (S2 (jo s a)):=by
 have c:=iY s;have l:=gJ s.d;obtain⟨n,o⟩:=k;cases d:bh s<;>rw[d]at c
 ·refine fO 33 [(4,12,[23,24,25,26,27,28,29,30,31,32,4,5])] Tryz.func473 rfl ?_ (.inr ⟨trivial,trivial,trivial⟩)
  repeat'(first|refine gP ?_|(conv=>whnf);first|refine CB c ?_)
  exact Dd (by grind [jo,cY])
 have h:=aK d;have i:=bZ ⟨h.2.2.1,h.2.2.2⟩;by_cases g:16*s.R<=a/\a<=16*s.R+15
 ·have j:0<=a:=ω
  refine fO 33 [(4,12,[23,24,25,26,27,28,29,30,31,32,4,5])] Tryz.func473 rfl ?_ (.inr ⟨trivial,trivial,trivial⟩)
  repeat'(first|refine gE ?_|(conv=>whnf);first|with_reducible refine Bf.N (λb=>?_) (λb=>?_)|refine CB c ?_|refine CB l ?_|refine CQ (by decide) ?_|refine CQ ω ?_|refine CM ((C1 _ (mn j)).trans (fJ ω ω)) ?_|refine CS (fV j) ?_|refine CM ((C1 _ (mn ω)).trans (fJ (by rcases i with e|e|e|e<;>rw[e]<;>omega) (by rcases i with e|e|e|e<;>rw[e]<;>omega))) ?_|refine CS (fV ω) ?_)
  all_goals grind [Dd,jo,cY]
 refine fO 33 [(4,12,[23,24,25,26,27,28,29,30,31,32,4,5])] Tryz.func473 rfl ?_ (.inr ⟨trivial,trivial,trivial⟩)
 repeat'(first|refine gP ?_|(conv=>whnf);first|with_reducible (first|refine Bf.D (λb=>?_) (λb=>?_)|refine Bf.N (λb=>?_) (λb=>?_))|refine CB c ?_|refine CQ (by decide) ?_|refine CM ((C1 _ (mn ω)).trans (fJ ω ω)) ?_)
 all_goals first
  |exact Dd (by unfold jo cY;rw[d,X0 g];rfl)
  |(exfalso;omega)
theorem HV(s:aA)(a:Int):zzA 379 false [.val (some 3) (aA.enc .S s),.val none [I a]] (.tup [none,none]) (S2 (jo s a)):=by
 have b:=gK s;have j:=di s.d;cases c:bh s<;>rw[c]at b
 ·refine fO 38 [(4,12,[28,29,30,31,32,33,34,35,36,37,4,5])] Tryz.func379 rfl ?_ (.inr ⟨trivial,trivial,trivial⟩)
  repeat'(first|refine gP ?_|(conv=>whnf);first|refine CB b ?_)
  exact Dd (by grind [jo,cY])
 have h:=aK c;have i:=bZ ⟨h.2.2.1,h.2.2.2⟩;by_cases d:16*s.R<=a/\a<=16*s.R+15
 ·refine fO 38 [(4,12,[28,29,30,31,32,33,34,35,36,37,4,5])] Tryz.func379 rfl ?_ (.inr ⟨trivial,trivial,trivial⟩)
  repeat'(first|refine gE ?_|(conv=>whnf);first|with_reducible refine Bf.D (λg=>?_) (λg=>?_)|refine CB b ?_|refine CB j ?_|refine CB (aG _ _ _) ?_|refine CQ ω ?_|refine CM ((C1 _ (mn ω)).trans (fJ (by rcases i with e|e|e|e<;>rw[e]<;>omega) (by rcases i with e|e|e|e<;>rw[e]<;>omega))) ?_|refine CS (fV ω) ?_)
  grind [Dd,jo,cY]
 refine fO 38 [(4,12,[28,29,30,31,32,33,34,35,36,37,4,5])] Tryz.func379 rfl ?_ (.inr ⟨trivial,trivial,trivial⟩)
 repeat'(first|refine gE ?_|(conv=>whnf);first|with_reducible refine Bf.D (λg=>?_) (λg=>?_)|refine CB b ?_|refine CB (aG _ _ _) ?_)
 all_goals exact Dd (by unfold jo cY;rw[c,X0 d];rfl)
def vA(b i:Int):zzA 547 false [.val none [I b],.val none [I i]] .one [B (decide (0<=b/\0<=i/\i<=15))]:=by
 refine fO 11 [] Tryz.func547 rfl ?_
 repeat'(first|refine gP ?_|(conv=>whnf);first|with_reducible refine Bf.D (λa=>?_) (λa=>?_)|refine CB (bn _ 0 15) ?_)
 all_goals exact C1 (λz=>[B z]) ((by first|(symm;exact X0 ω)|exact decide_eq_decide.2 ω))
def qw(b i:Int):zzA 457 false [.val none [I b],.val none [I i]] .one [B (decide (0<=b/\0<=i/\i<=15))]:=by
 refine fO 11 [] Tryz.func457 rfl ?_
 repeat'(first|refine gP ?_|(conv=>whnf);first|with_reducible refine Bf.D (λa=>?_) (λa=>?_)|refine CB (aG _ 0 15) ?_)
 all_goals exact C1 (λz=>[B z]) ((by first|(symm;exact X0 ω)|exact decide_eq_decide.2 ω))
theorem Qf{i:Int}(a:0<=b/\b<=9223372036854775807)(e:0<=i/\i<=15):b.fdiv (2 ^ min i.toNat IntKind.i64.bits)=b / 2 ^ i.toNat/\0<=b / 2 ^ i.toNat/\b / 2 ^ i.toNat<=9223372036854775807:=by
 have d:min i.toNat IntKind.i64.bits=i.toNat:=Nat.min_eq_left (show i.toNat<=64 by omega);rw[d];have c:(0:Int)<=2 ^ i.toNat:=ψ
 refine⟨Int.fdiv_eq_ediv_of_nonneg _ c,Int.ediv_nonneg a.1 c,?_⟩;have:=Int.ediv_le_self (2 ^ i.toNat:Int) a.1;omega
theorem xS{i:Int}(a:0<=b)(c:0<=i/\i<=15):((((b / 2 ^ i.toNat).toNat &&& (1:Int).toNat:Nat):Int) == 1)=aT b i:=by
 have d:(0:Int)<=b / 2 ^ i.toNat:=Int.ediv_nonneg a ψ
 grind [aT]
theorem lJ(b i:Int)(c:b<=9223372036854775807):zzA 474 false [.val none [I b],.val none [I i]] .one [B (aT b i)]:=by
 by_cases h:0<=b/\0<=i/\i<=15
 ·obtain⟨d,g⟩:=Qf (b:=b) (i:=i) ⟨h.1,c⟩ h.2
  have j:IntKind.u64.wrap i=i:=by grind [Go.IntKind.wrap,Go.IntKind.bits]
  refine fO 16 [] Tryz.func474 rfl ?_
  repeat'(first|refine gE ?_|(conv=>whnf);first|with_reducible refine Bf.D (λa=>?_) (λa=>?_)|refine CB (vA _ _) ?_|refine CQ ω ?_|refine CM j ?_|refine CS d ?_|refine CM (and64 g ⟨by decide,by decide⟩) ?_)
  grind [xS]
 refine fO 16 [] Tryz.func474 rfl ?_
 repeat'(first|refine gE ?_|(conv=>whnf);first|with_reducible refine Bf.D (λa=>?_) (λa=>?_)|refine CB (vA _ _) ?_)
 all_goals exact C1 (λz=>[B z]) ((by unfold aT;symm;exact X0 λe=>h ⟨e.1,e.2.1,e.2.2.1⟩))
theorem hC(b i:Int)(c:b<=9223372036854775807):zzA 380 false [.val none [I b],.val none [I i]] .one [B (aT b i)]:=by
 by_cases h:0<=b/\0<=i/\i<=15
 ·obtain⟨d,g⟩:=Qf (b:=b) (i:=i) ⟨h.1,c⟩ h.2
  refine fO 15 [] Tryz.func380 rfl ?_
  repeat'(first|refine gE ?_|(conv=>whnf);first|with_reducible refine Bf.D (λa=>?_) (λa=>?_)|refine CB (qw _ _) ?_|refine CQ ω ?_|refine CS d ?_|refine CM (and64 g ⟨by decide,by decide⟩) ?_)
  grind [xS]
 refine fO 15 [] Tryz.func380 rfl ?_
 repeat'(first|refine gE ?_|(conv=>whnf);first|with_reducible refine Bf.D (λa=>?_) (λa=>?_)|refine CB (qw _ _) ?_)
 all_goals exact C1 (λz=>[B z]) ((by unfold aT;symm;exact X0 λe=>h ⟨e.1,e.2.1,e.2.2.1⟩))
theorem dn{l:aB}(h:bK l=true):9<=l.q/\l.q<=1000/\0<=l.R/\l.R<=31:=by grind [bK]
theorem qT(l:aB)(a:Int):zzA 475 false [.val (some 3) (aB.enc .S l),.val none [I a]] .one [B (bC l a)]:=by
 have b:=sZ l;cases c:bK l<;>rw[c]at b
 ·refine fO 24 [] Tryz.func475 rfl ?_
  repeat'(first|refine gP ?_|(conv=>whnf);first|refine CB b ?_)
  exact C1 (λz=>[B z]) ((by grind [bC]))
 have e:=dn c;refine fO 24 [] Tryz.func475 rfl ?_
 repeat'(first|refine gP ?_|(conv=>whnf);first|with_reducible refine Bf.D (λd=>?_) (λd=>?_)|refine CB b ?_)
 all_goals exact C1 (λz=>[B z]) ((by unfold bC;rw[c,Bool.true_and];first|(symm;exact X0 ω)|exact decide_eq_decide.2 ω))
theorem rk(l:aB)(a:Int):zzA 381 false [.val (some 3) (aB.enc .S l),.val none [I a]] .one [B (bC l a)]:=by
 have b:=nY l;cases c:bK l<;>rw[c]at b
 ·refine fO 21 [] Tryz.func381 rfl ?_
  repeat'(first|refine gP ?_|(conv=>whnf);first|refine CB b ?_)
  exact C1 (λz=>[B z]) ((by grind [bC]))
 have e:=dn c;refine fO 21 [] Tryz.func381 rfl ?_
 repeat'(first|refine gP ?_|(conv=>whnf);first|with_reducible refine Bf.D (λd=>?_) (λd=>?_)|refine CB b ?_|refine CB (aG _ _ _) ?_)
 grind [bC]
theorem vu(l:aB)(a:Int)(h:bC l a=true):zzA 476 false [.val (some 3) (aB.enc .S l),.val none [I a]] .one [I (a - 16*l.R)]:=by
 have b:=qT l a;rw[h]at b;unfold bC at h;simp only[I0,C0]at h;have c:=dn h.1;refine fO 14 [] Tryz.func476 rfl ?_
 repeat'(first|refine gP ?_|(conv=>whnf);first|refine CB b ?_)
 grind
theorem vD(l:aB)(a:Int)(h:bC l a=true):zzA 382 false [.val (some 3) (aB.enc .S l),.val none [I a]] .one [I (a - 16*l.R)]:=by
 have b:=rk l a;rw[h]at b;unfold bC at h;simp only[I0,C0]at h;have c:=dn h.1;refine fO 14 [] Tryz.func382 rfl ?_
 repeat'(first|refine gP ?_|(conv=>whnf);first|refine CB b ?_)
 grind
variable{m:aM}
theorem qF(a:i<m.U.length)(h:ib m i=false):bU m=false:=by grind [dC,bU]
theorem zk(h:¬(1<=m.U.length/\m.U.length<=4/\m.u.length=m.U.length)):bU m=false:=by grind [bU]
theorem x5(h1:1<=m.U.length/\m.U.length<=4/\m.u.length=m.U.length)(a:dN m.U.length (ib m)=true):bU m=decide (bA m m.U.length<=30):=by grind [bU]
theorem FX(m:aM)(h:aM.sml m):zzA 111 false [.val (some 2) (aM.enc .S m)] .one [B (bU m)]:=by
 have r:m.U.length<=1048576:=h.1.1;have t:m.u.length<=1048576:=h.2.1;by_cases u:1<=m.U.length/\m.U.length<=4/\m.u.length=m.U.length
 ·refine fO 92 [(19,15,[75,76,77,78,79,80,81,82,83,84,85,86,87,88,89])] Tryz.func111 rfl ?_
  repeat'(first|refine gB ?_|(conv=>whnf);first|with_reducible (first|refine Bf.D (λa=>?_) (λa=>?_)|refine Bf.N (λa=>?_) (λa=>?_))|refine CB (bn _ 1 4) ?_)
  (conv=>whnf)
  refine CH (ι:=Nat) (λi=>[(1,.H .box (aM.enc .S m)),(3,.H .one [I (m.U.length)]),(4,.H .one [I (bA m i)]),(5,.H .one [I ((i:Nat):Int)])]) (λi=>i<=m.U.length/\dN i (ib m)=true/\0<=bA m i/\bA m i<=2097152*i) (λi=>m.U.length - i) (0) ?_ (⟨Z0 _,rfl,by simp[bA],by simp[bA]⟩) λi n=>?_
  ·exact wB
  obtain⟨n,w,F,G⟩:=n;by_cases j:i<m.U.length
  ·have l:=ax j
   have o:=ax (xs:=m.u) (i:=i) ω;have y:(nth m.U i).length<=1048576:=(h.1.2 _ (au j)).1;have C:(nth m.u i).length<=1048576:=h.2.2 _ ψ
   repeat'(first|refine gE ?_|fail)
   (conv=>whnf)
   refine CH (ι:=Nat) (λk=>[(1,.H .box (aM.enc .S m)),(3,.H .one [I (m.U.length)]),(4,.H .one [I (bA m i)]),(5,.H .one [I ((i:Nat):Int)]),(6,.H .one [I ((k:Nat):Int)])]) (λk=>k<=(nth m.U i).length/\((nth m.U i).take k).all (oB m.U.length)=true) (λk=>(nth m.U i).length - k) (0) ?_ ψ λk p=>?_
   ·exact wB
   obtain⟨p,q⟩:=p;by_cases E:k<(nth m.U i).length
   ·have c:=ax E
    repeat'(first|refine gE ?_|(conv=>whnf);first|with_reducible (first|refine CF (aa l) ?_|refine CF (aa c) ?_|refine Bf.D (λa=>?_) (λa=>?_))|refine CB (bn _ 0 _) ?_)
    all_goals first
     | exact C1 (λz=>[B z]) ((qF j (by unfold ib;rw[mu c (by unfold oB;exact X0 ω)];rfl)).symm)
     | ((conv=>whnf);refine CG (k+1) ⟨ω,eE c q (by unfold oB;exact O0 ω)⟩ ω ?_;(exact wB))
   have H:=tN ω q
   repeat'(first|refine gE ?_|(conv=>whnf);first|with_reducible refine CF (aa l) ?_)
   (conv=>whnf)
   refine CH (ι:=Nat) (λb=>[(1,.H .box (aM.enc .S m)),(3,.H .one [I (m.U.length)]),(4,.H .one [I (bA m i)]),(5,.H .one [I ((i:Nat):Int)]),(8,.H .one [I ((b:Nat):Int)])]) (λb=>b<=(nth m.u i).length/\((nth m.u i).take b).all RU=true) (λb=>(nth m.u i).length - b) (0) ?_ ψ λb e=>?_
   ·exact wB
   obtain⟨e,ak2⟩:=e;by_cases lk2:b<(nth m.u i).length
   ·have c:=ax lk2
    repeat'(first|refine gE ?_|(conv=>whnf);first|with_reducible (first|refine CF (aa o) ?_|refine CF (aa c) ?_|refine Bf.D (λa=>?_) (λa=>?_)))
    all_goals first
     | exact C1 (λz=>[B z]) ((qF j (by unfold ib;rw[mu c (by unfold RU;exact X0 ω)];simp)).symm)
     | ((conv=>whnf);refine CG (b+1) ⟨ω,eE c ak2 (by unfold RU;exact O0 ω)⟩ ω ?_;(exact wB))
   have ae2:=tN ω ak2;have g:bA m (i+1)=bA m i+((nth m.U i).length+(nth m.u i).length):=rfl;have d:bA m (i+1)=bA m i+(nth m.U i).length+(nth m.u i).length:=by rw[g];omega
   repeat'(first|refine gE ?_|(conv=>whnf);first|with_reducible (first|refine CF (aa l) ?_|refine CF (aa o) ?_))
   ((conv=>whnf);refine CG (i+1) ⟨ω,cO w (by grind [ib]),ω,ω⟩ ω ?_)
   rw[d];exact wB
  obtain rfl:i=m.U.length:=ω
  repeat'(first|refine gE ?_|fail)
  grind [x5]
 refine fO 92 [(19,15,[75,76,77,78,79,80,81,82,83,84,85,86,87,88,89])] Tryz.func111 rfl ?_
 repeat'(first|refine gP ?_|(conv=>whnf);first|with_reducible (first|refine Bf.D (λa=>?_) (λa=>?_)|refine Bf.N (λa=>?_) (λa=>?_))|refine CB (bn _ 1 4) ?_)
 all_goals first
  | exact C1 (λz=>[B z]) ((zk u).symm)
  |(exfalso;omega)
theorem mD(m:aM)(g:aM.sml m):zzA 78 false [.val (some 2) (aM.enc .S m)] .one [B (bU m)]:=by
 have q:m.U.length<=1048576:=g.1.1;have r:m.u.length<=1048576:=g.2.1;by_cases t:1<=m.U.length/\m.U.length<=4/\m.u.length=m.U.length
 ·refine fO 82 [(20,15,[64,65,66,67,68,69,70,71,72,73,74,75,76,77,78])] Tryz.func78 rfl ?_
  repeat'(first|refine gB ?_|(conv=>whnf);first|with_reducible (first|refine Bf.D (λa=>?_) (λa=>?_)|refine Bf.N (λa=>?_) (λa=>?_))|refine CB (aG _ 1 4) ?_)
  (conv=>whnf)
  refine CH (ι:=Nat) (λi=>[(1,.H .box (aM.enc .S m)),(3,.H .one [I (m.U.length)]),(4,.H .one [I (bA m i)]),(25,.H .one [I (m.U.length)]),(26,.H .one [I ((i:Nat):Int)])]) (λi=>i<=m.U.length/\dN i (ib m)=true/\0<=bA m i/\bA m i<=2097152*i) (λi=>m.U.length - i) (0) ?_ (⟨Z0 _,rfl,by simp[bA],by simp[bA]⟩) λi n=>?_
  ·exact wB
  obtain⟨n,u,E,F⟩:=n;by_cases h:i<m.U.length
  ·have j:=ax h
   have l:=ax (xs:=m.u) (i:=i) ω;have w:(nth m.U i).length<=1048576:=(g.1.2 _ (au h)).1;have y:(nth m.u i).length<=1048576:=g.2.2 _ ψ
   repeat'(first|refine gE ?_|(conv=>whnf);first|with_reducible refine CF (aa j) ?_)
   (conv=>whnf)
   refine CH (ι:=Nat) (λk=>[(1,.H .box (aM.enc .S m)),(3,.H .one [I (m.U.length)]),(4,.H .one [I (bA m i)]),(5,.H .one [I ((i:Nat):Int)]),(25,.H .one [I (m.U.length)]),(26,.H .one [I ((i:Nat):Int)]),(33,.H .one (bO .S (nth m.U i))),(34,.H .one [I ((nth m.U i).length)]),(35,.H .one [I ((k:Nat):Int)])]) (λk=>k<=(nth m.U i).length/\((nth m.U i).take k).all (oB m.U.length)=true) (λk=>(nth m.U i).length - k) (0) ?_ ψ λk o=>?_
   ·exact wB
   obtain⟨o,p⟩:=o;by_cases C:k<(nth m.U i).length
   ·have c:=ax C
    repeat'(first|refine gE ?_|(conv=>whnf);first|with_reducible (first|refine CF (aa j) ?_|refine CF (aa c) ?_|refine Bf.D (λa=>?_) (λa=>?_))|refine CB (aG _ 0 _) ?_)
    all_goals first
     | exact C1 (λz=>[B z]) ((qF h (by unfold ib;rw[mu c (by unfold oB;exact X0 ω)];rfl)).symm)
     | ((conv=>whnf);refine CG (k+1) ⟨ω,eE c p (by unfold oB;exact O0 ω)⟩ ω ?_;(exact wB))
   have G:=tN ω p
   repeat'(first|refine gE ?_|(conv=>whnf);first|with_reducible (first|refine CF (aa j) ?_|refine CF (aa l) ?_))
   (conv=>whnf)
   refine CH (ι:=Nat) (λb=>[(1,.H .box (aM.enc .S m)),(3,.H .one [I (m.U.length)]),(4,.H .one [I (bA m i)]),(5,.H .one [I ((i:Nat):Int)]),(25,.H .one [I (m.U.length)]),(26,.H .one [I ((i:Nat):Int)]),(55,.H .one (aJ .S (nth m.u i))),(56,.H .one [I ((nth m.u i).length)]),(57,.H .one [I ((b:Nat):Int)])]) (λb=>b<=(nth m.u i).length/\((nth m.u i).take b).all RU=true) (λb=>(nth m.u i).length - b) (0) ?_ ψ λb d=>?_
   ·exact wB
   obtain⟨d,ak2⟩:=d;by_cases lk2:b<(nth m.u i).length
   ·have c:=ax lk2
    repeat'(first|refine gE ?_|(conv=>whnf);first|with_reducible (first|refine CF (aa l) ?_|refine CF (aa c) ?_|refine Bf.D (λa=>?_) (λa=>?_)))
    all_goals first
     | exact C1 (λz=>[B z]) ((qF h (by unfold ib;rw[mu c (by unfold RU;exact X0 ω)];simp)).symm)
     | ((conv=>whnf);refine CG (b+1) ⟨ω,eE c ak2 (by unfold RU;exact O0 ω)⟩ ω ?_;(exact wB))
   have ae2:=tN ω ak2;have e:bA m (i+1)=bA m i+((nth m.U i).length+(nth m.u i).length):=rfl
   repeat'(first|refine gE ?_|(conv=>whnf);first|with_reducible (first|refine CF (aa j) ?_|refine CF (aa l) ?_))
   ((conv=>whnf);refine CG (i+1) ⟨ω,cO u (by grind [ib]),ω,ω⟩ ω ?_)
   rw[e];exact wB
  obtain rfl:i=m.U.length:=ω
  repeat'(first|refine gE ?_|fail)
  grind [x5]
 refine fO 82 [(20,15,[64,65,66,67,68,69,70,71,72,73,74,75,76,77,78])] Tryz.func78 rfl ?_
 repeat'(first|refine gP ?_|(conv=>whnf);first|with_reducible (first|refine Bf.D (λa=>?_) (λa=>?_)|refine Bf.N (λa=>?_) (λa=>?_))|refine CB (aG _ 1 4) ?_)
 all_goals first
  | exact C1 (λz=>[B z]) ((zk t).symm)
  |(exfalso;omega)
def Bv(h:cY s a=false):S2 (jo s a)=[I (-1),I (-1)]:=by
 unfold jo;rw[h];rfl
def zv(h:cY s a=true):S2 (jo s a)=[I ((a - 16*s.R) / csz s.d),I ((a - 16*s.R) % csz s.d)]:=by
 unfold jo;rw[h];rfl
theorem tf(h:cY s a=true):bh s=true/\0<=(a - 16*s.R) / csz s.d/\(a - 16*s.R) / csz s.d<=15:=by
 unfold cY at h;simp only[I0,C0]at h;have b:=aK h.1
 grind [bZ]
def nN(b:i<sp.length)(h:cY (nth sp i) a=true)(c:∀(j:Nat)(z:aA),j<i->sp[j]? = some z->cY z a=false):denotes sp la a=o8 i (nth sp i) a:=by
 unfold denotes;rw[wW (pr:=(cY · a)) (ax b) h c]
def nh(b:sp.length<=n)(c:∀(j:Nat)(z:aA),j<n->sp[j]? = some z->cY z a=false)(d:i<la.length)(h:bC (nth la i) a=true)(e:∀(j:Nat)(z:aB),j<i->la[j]? = some z->bC z a=false) :
  denotes sp la a = ⟨3,i,0,a - 16*(nth la i).R⟩:=by
 unfold denotes;rw[Ek (pr:=(cY · a)) b c,wW (pr:=(bC · a)) (ax d) h e]
theorem yP(b:sp.length<=n)(c:∀(j:Nat)(z:aA),j<n->sp[j]? = some z->cY z a=false)(d:la.length<=k)(e:∀(j:Nat)(z:aB),j<k->la[j]? = some z->bC z a=false):denotes sp la a = ⟨0,0,0,0⟩:=by grind [Ek,denotes]
theorem Eg(sp:List aA)(la:List aB)(a:Int)(d:fL sp)(e:fG la)(g:bG sp la=true)(C:pd a):zzA 362 false [.val none (cw .S sp),.val none (cA .S la),.val none [I a]] .agg (kb.enc .own (denotes sp la a)):=by
 have E:=d.1;have F:=e.1;have p:=Ad sp la d e;rw[g]at p;refine fO 67 [] Tryz.func362 rfl ?_ (.inr (kb.enc_fr _))
 repeat'(first|refine gP ?_|(conv=>whnf);first|refine CB p ?_)
 (conv=>whnf)
 refine CH (ι:=Nat) (λi=>[(0,.H .one (cw .S sp)),(1,.H .one (cA .S la)),(2,.H .one [I (a)]),(6,.H .box ([I 0,I 0,I 0,I 0])),(7,.H .one [I ((i:Nat):Int)])]) (λi=>i<=sp.length/\∀(j:Nat)(z:aA),j<i->sp[j]? = some z->cY z a=false) (λi=>sp.length - i) (0) ?_ ψ λi q=>?_
 ·exact wB
 obtain⟨q,l⟩:=q;by_cases r:i<sp.length
 ·have h:=ax r
  have b:=wo (nth sp i) a C;cases c:cY (nth sp i) a with
  | false=>
   rw[Bv c]at b
   repeat'(first|refine gE ?_|(conv=>whnf);first|with_reducible (first|refine CF (aa h) ?_|refine Bf.D (λo=>?_) (λo=>?_))|refine CB b ?_)
   ((conv=>whnf);refine CG (i+1) ψ ω ?_;(exact wB))
  | true=>
   rw[zv c]at b;obtain⟨G,H,J⟩:=tf c;have t:=lJ (nth sp i).a8 ((a - 16*(nth sp i).R) / csz (nth sp i).d) (f8 G).2;cases u:aT (nth sp i).a8 ((a - 16*(nth sp i).R) / csz (nth sp i).d)<;>rw[u]at t
   all_goals
    repeat'(first|refine gE ?_|(conv=>whnf);first|with_reducible (first|refine CF (aa h) ?_|refine Bf.D (λo=>?_) (λo=>?_))|refine CB b ?_|refine CB t ?_)
    all_goals(rw[nN r c l];unfold o8;rw[u];rfl)
 repeat'(first|refine gE ?_|fail)
 (conv=>whnf)
 refine CH (ι:=Nat) (λk=>[(1,.H .one (cA .S la)),(2,.H .one [I (a)]),(6,.H .box ([I 0,I 0,I 0,I 0])),(11,.H .one [I ((k:Nat):Int)])]) (λk=>k<=la.length/\∀(j:Nat)(z:aB),j<k->la[j]? = some z->bC z a=false) (λk=>la.length - k) (0) ?_ ψ λk w=>?_
 ·exact wB
 obtain⟨w,y⟩:=w;by_cases B:k<la.length
 ·have h:=ax B
  have b:=qT (nth la k) a;cases c:bC (nth la k) a<;>rw[c]at b
  ·repeat'(first|refine gE ?_|(conv=>whnf);first|with_reducible refine CF (aa h) ?_|refine CB b ?_)
   ((conv=>whnf);refine CG (k+1) ψ ω ?_;(exact wB))
  repeat'(first|refine gE ?_|(conv=>whnf);first|with_reducible refine CF (aa h) ?_|refine CB b ?_|refine CB (vu (nth la k) a c) ?_)
  rw[nh (n:=i) ω l B c y];rfl
 repeat'(first|refine gE ?_|fail)
 rw[yP (n:=i) (k:=k) ω l ω y];rfl
theorem lA(sp:List aA)(la:List aB)(a:Int)(e:fL sp)(g:fG la):zzA 235 false [.val none (cw .S sp),.val none (cA .S la),.val none [I a]] .agg (kb.enc .own (denotes sp la a)):=by
 have y:=e.1;have B:=g.1;refine fO 56 [] Tryz.func235 rfl ?_ (.inr (kb.enc_fr _))
 repeat'(first|refine gP ?_|fail)
 (conv=>whnf)
 refine CH (ι:=Nat) (λi=>[(1,.H .one (cA .S la)),(2,.H .one [I (a)]),(6,.H .box ([I 0,I 0,I 0,I 0])),(14,.H .one (cw .S sp)),(15,.H .one [I (sp.length)]),(16,.H .one [I ((i:Nat):Int)])]) (λi=>i<=sp.length/\∀(j:Nat)(z:aA),j<i->sp[j]? = some z->cY z a=false) (λi=>sp.length - i) (0) ?_ ψ λi o=>?_
 ·exact wB
 obtain⟨o,h⟩:=o;by_cases p:i<sp.length
 ·have d:=ax p
  have b:=HV (nth sp i) a;cases c:cY (nth sp i) a with
  | false=>
   rw[Bv c]at b
   repeat'(first|refine gE ?_|(conv=>whnf);first|with_reducible (first|refine CF (aa d) ?_|refine Bf.D (λl=>?_) (λl=>?_))|refine CB b ?_)
   ((conv=>whnf);refine CG (i+1) ψ ω ?_;(exact wB))
  | true=>
   rw[zv c]at b;obtain⟨C,E,F⟩:=tf c;have q:=hC (nth sp i).a8 ((a - 16*(nth sp i).R) / csz (nth sp i).d) (f8 C).2;cases r:aT (nth sp i).a8 ((a - 16*(nth sp i).R) / csz (nth sp i).d)<;>rw[r]at q
   all_goals
    repeat'(first|refine gE ?_|(conv=>whnf);first|with_reducible (first|refine CF (aa d) ?_|refine Bf.D (λl=>?_) (λl=>?_))|refine CB b ?_|refine CB q ?_)
    all_goals(rw[nN p c h];unfold o8;rw[r];rfl)
 repeat'(first|refine gE ?_|fail)
 (conv=>whnf)
 refine CH (ι:=Nat) (λk=>[(2,.H .one [I (a)]),(6,.H .box ([I 0,I 0,I 0,I 0])),(39,.H .one (cA .S la)),(40,.H .one [I (la.length)]),(41,.H .one [I ((k:Nat):Int)])]) (λk=>k<=la.length/\∀(j:Nat)(z:aB),j<k->la[j]? = some z->bC z a=false) (λk=>la.length - k) (0) ?_ ψ λk t=>?_
 ·exact wB
 obtain⟨t,u⟩:=t;by_cases w:k<la.length
 ·have d:=ax w
  have b:=rk (nth la k) a;cases c:bC (nth la k) a<;>rw[c]at b
  ·repeat'(first|refine gE ?_|(conv=>whnf);first|with_reducible refine CF (aa d) ?_|refine CB b ?_)
   ((conv=>whnf);refine CG (k+1) ψ ω ?_;(exact wB))
  repeat'(first|refine gE ?_|(conv=>whnf);first|with_reducible refine CF (aa d) ?_|refine CB b ?_|refine CB (vD (nth la k) a c) ?_)
  rw[nh (n:=i) ω h w c u];rfl
 repeat'(first|refine gE ?_|fail)
 rw[yP (n:=i) (k:=k) ω h ω u];rfl
section
variable{α:Type}
def nl(ag:Option Nat)(e:α->List C)(pr:α->Bool)(xs:List α):List (Option Nat × List C)->Kd->List C->Prop:=λL k rcs=>∃x,x∈xs/\L=[(ag,e x)]/\k=.one/\rcs=[B (pr x)]
end
def wN(xs:List aC)(pr:aC->Bool)(n:xs.length<=9223372036854775807):zzA 487 false [.val none (bF .S xs),.fn (kI Tryz.prog (nl (some 2) (aC.enc .S) pr xs))] .one [I (cF pr xs)]:=by
 refine fO 19 [] Tryz.func487 rfl ?_
 repeat'(first|refine gP ?_|fail)
 (conv=>whnf)
 refine CH (ι:=Nat) (λi=>[(0,.H .one (bF .S xs)),(1,.fv (kI Tryz.prog (nl (some 2) (aC.enc .S) pr xs))),(7,.H .one [I xs.length]),(8,.H .one [I (i:Nat)])]) (λi=>i<=xs.length/\∀(j:Nat)(z:aC),j<i->xs[j]? = some z->pr z=false) (λi=>xs.length - i) 0 ?_ ⟨Z0 _,λj z h=>ω⟩ λi e=>?_
 ·exact wB
 obtain⟨e,b⟩:=e;by_cases c:i<xs.length
 ·obtain⟨y,a⟩ : ∃y,xs[i]? = some y:=⟨_,I3 c⟩
  repeat'(first|refine gE ?_|(conv=>whnf);first|with_reducible refine CF (aa a) ?_|refine Fv.mk (k:=.one) (rcs:=[B (pr y)]) ⟨y,Z2 a,rfl,rfl,rfl⟩ ?_|refine Bf.P (λl=>?_) (λl=>?_))
  ·exact C1 (λz=>[I z]) (eD a ‹_› b).symm
  (conv=>whnf)
  refine CG (i+1) ⟨ω,λj z h d=>?_⟩ ω ?_
  ·rcases Nat.lt_or_ge j i with g|g
   ·exact b j z g d
   obtain rfl:j=i:=ω
   rw[a]at d;cases d;assumption
  exact wB
 repeat'(first|refine gE ?_|fail)
 exact C1 (λz=>[I z]) (gQ ω b).symm
theorem sF(xs:List aC)(pr:aC->Bool)(a:xs.length<=9223372036854775807):zzA 376 false [.val none (bF .S xs),.fn (kI Tryz.prog (nl (some 2) (aC.enc .S) pr xs))] .one [B (xs.any pr)]:=by
 refine fO 9 [] Tryz.func376 rfl ?_
 repeat'(first|refine gP ?_|(conv=>whnf);first|refine CB (wN xs pr a) ?_)
 grind [lQ]
def vV(r:aC)(page:Int):zzA 377 false [.val (some 2) (aC.enc .S r),.ptr [I page]] .one [B (Gm page r)]:=by
 refine fO 17 [] Tryz.func377 rfl ?_
 repeat'(first|refine gP ?_|(conv=>whnf);first|with_reducible refine Bf.D (λa=>?_) (λa=>?_)|refine CM rfl ?_)
 all_goals exact C1 (λz=>[B z]) (by unfold Gm;first|(rw[O0 (by assumption:r.At<=page)];simp;done)|(rw[X0 (by assumption:¬r.At<=page)];rfl))
def AQ(xs:List aC)(page:Int)(a:xs.length<=9223372036854775807):zzA 228 false [.val none (bF .S xs),.val none [I page]] .one [B (xs.any (Gm page))]:=by
 refine fO 8 [] Tryz.func228 rfl ?_
 repeat'(first|refine gP ?_|(conv=>whnf);first|refine Cq.mk (nl (some 2) (aC.enc .S) (Gm page) xs) (vV default page).has (λL k rcs b=>?_) ?_|refine CB (sF xs (Gm page) a) ?_)
 ·obtain⟨x,-,rfl,rfl,rfl⟩:=b
  exact vV x page
 rfl
theorem wy(xs:List aO)(pr:aO->Bool)(g:xs.length<=9223372036854775807):zzA 549 false [.val none (dX .S xs),.fn (kI Tryz.prog (nl (some 3) (aO.enc .S) pr xs))] .one [I (cF pr xs)]:=by
 refine fO 19 [] Tryz.func549 rfl ?_
 repeat'(first|refine gP ?_|fail)
 (conv=>whnf)
 refine CH (ι:=Nat) (λi=>[(0,.H .one (dX .S xs)),(1,.fv (kI Tryz.prog (nl (some 3) (aO.enc .S) pr xs))),(7,.H .one [I xs.length]),(8,.H .one [I (i:Nat)])]) (λi=>i<=xs.length/\∀(j:Nat)(z:aO),j<i->xs[j]? = some z->pr z=false) (λi=>xs.length - i) 0 ?_ ψ λi b=>?_
 ·exact wB
 obtain⟨b,d⟩:=b;by_cases a:i<xs.length
 ·obtain⟨y,c⟩ : ∃y,xs[i]? = some y:=⟨_,I3 a⟩
  repeat'(first|refine gE ?_|(conv=>whnf);first|with_reducible refine CF (aa c) ?_|refine Fv.mk (k:=.one) (rcs:=[B (pr y)]) ⟨y,Z2 c,rfl,rfl,rfl⟩ ?_|refine Bf.P (λe=>?_) (λe=>?_))
  ·grind [eD]
  (conv=>whnf)
  refine CG (i+1) ψ ω ?_;exact wB
 repeat'(first|refine gE ?_|fail)
 exact C1 (λz=>[I z]) (gQ ω d).symm
theorem sv(xs:List aO)(pr:aO->Bool)(a:xs.length<=9223372036854775807):zzA 488 false [.val none (dX .S xs),.fn (kI Tryz.prog (nl (some 3) (aO.enc .S) pr xs))] .one [B (xs.any pr)]:=by
 refine fO 9 [] Tryz.func488 rfl ?_
 repeat'(first|refine gP ?_|(conv=>whnf);first|refine CB (wy xs pr a) ?_)
 grind [lQ]
theorem xL(xs:List aA)(pr:aA->Bool)(g:xs.length<=9223372036854775807):zzA 240 false [.val none (cw .S xs),.fn (kI Tryz.prog (nl (some 3) (aA.enc .S) pr xs))] .one [I (cF pr xs)]:=by
 refine fO 19 [] Tryz.func240 rfl ?_
 repeat'(first|refine gP ?_|fail)
 (conv=>whnf)
 refine CH (ι:=Nat) (λi=>[(0,.H .one (cw .S xs)),(1,.fv (kI Tryz.prog (nl (some 3) (aA.enc .S) pr xs))),(7,.H .one [I xs.length]),(8,.H .one [I (i:Nat)])]) (λi=>i<=xs.length/\∀(j:Nat)(z:aA),j<i->xs[j]? = some z->pr z=false) (λi=>xs.length - i) 0 ?_ ψ λi b=>?_
 ·exact wB
 obtain⟨b,d⟩:=b;by_cases a:i<xs.length
 ·obtain⟨y,c⟩ : ∃y,xs[i]? = some y:=⟨_,I3 a⟩
  repeat'(first|refine gE ?_|(conv=>whnf);first|with_reducible refine CF (aa c) ?_|refine Fv.mk (k:=.one) (rcs:=[B (pr y)]) ⟨y,Z2 c,rfl,rfl,rfl⟩ ?_|refine Bf.P (λe=>?_) (λe=>?_))
  ·grind [eD]
  (conv=>whnf)
  refine CG (i+1) ψ ω ?_;exact wB
 repeat'(first|refine gE ?_|fail)
 exact C1 (λz=>[I z]) (gQ ω d).symm
theorem ko(xs:List aU)(pr:aU->Bool)(g:xs.length<=9223372036854775807):zzA 88 false [.val none (ml .S xs),.fn (kI Tryz.prog (nl (some 4) (aU.enc .S) pr xs))] .one [I (cF pr xs)]:=by
 refine fO 19 [] Tryz.func88 rfl ?_
 repeat'(first|refine gP ?_|fail)
 (conv=>whnf)
 refine CH (ι:=Nat) (λi=>[(0,.H .one (ml .S xs)),(1,.fv (kI Tryz.prog (nl (some 4) (aU.enc .S) pr xs))),(7,.H .one [I xs.length]),(8,.H .one [I (i:Nat)])]) (λi=>i<=xs.length/\∀(j:Nat)(z:aU),j<i->xs[j]? = some z->pr z=false) (λi=>xs.length - i) 0 ?_ ψ λi b=>?_
 ·exact wB
 obtain⟨b,d⟩:=b;by_cases a:i<xs.length
 ·obtain⟨y,c⟩ : ∃y,xs[i]? = some y:=⟨_,I3 a⟩
  repeat'(first|refine gE ?_|(conv=>whnf);first|with_reducible refine CF (aa c) ?_|refine Fv.mk (k:=.one) (rcs:=[B (pr y)]) ⟨y,Z2 c,rfl,rfl,rfl⟩ ?_|refine Bf.P (λe=>?_) (λe=>?_))
  ·grind [eD]
  (conv=>whnf)
  refine CG (i+1) ψ ω ?_;exact wB
 repeat'(first|refine gE ?_|fail)
 exact C1 (λz=>[I z]) (gQ ω d).symm
theorem uw(xs:List aU)(pr:aU->Bool)(a:xs.length<=9223372036854775807):zzA 233 false [.val none (ml .S xs),.fn (kI Tryz.prog (nl (some 4) (aU.enc .S) pr xs))] .one [B (xs.any pr)]:=by
 refine fO 9 [] Tryz.func233 rfl ?_
 repeat'(first|refine gP ?_|(conv=>whnf);first|refine CB (ko xs pr a) ?_)
 grind [lQ]
def Tp(a:k<=3):IntKind.i64.wrap (1*2 ^ min ((k:Nat):Int).toNat IntKind.i64.bits)=csz (k:Nat):=by
 obtain rfl|rfl|rfl|rfl:k=0\/k=1\/k=2\/k=3:=ω
 all_goals decide
theorem RN(a:k<=100):IntKind.u64.wrap (k:Nat)=(k:Nat):=by grind [Go.IntKind.wrap,Go.IntKind.bits]
theorem DW(a:k<=3)(h:csz (k:Nat)<z)(b:z<=8):k<=2:=by
 have c:csz ((3:Nat):Int)=8:=by decide
 grind
theorem xo(a:k<=3)(h1:1<=z)(b:k=0\/csz ((k - 1:Nat):Int)<z)(c:¬csz (k:Nat)<z):aP z=(k:Nat):=by
 have d:csz ((0:Nat):Int)=1:=by decide
 have e:csz ((1:Nat):Int)=2:=by decide
 have f:csz ((2:Nat):Int)=4:=by decide
 have g:csz ((3:Nat):Int)=8:=by decide
 unfold aP;obtain rfl|rfl|rfl|rfl:k=0\/k=1\/k=2\/k=3:=ω
 all_goals grind
def Dx(z:Int):zzA 220 false [.val none [I z]] .one [I (aP z)]:=by
 refine fO 15 [] Tryz.func220 rfl ?_;by_cases c:1<=z/\z<=8
 ·repeat'(first|refine gE ?_|(conv=>whnf);first|with_reducible refine Bf.D (λb=>?_) (λb=>?_)|refine CB (bn z 1 8) ?_)
  (conv=>whnf)
  refine CH (ι:=Nat) (λk=>[(0,.H .one [I (z)]),(3,.H .one [I ((k:Nat):Int)])]) (λk=>k<=3/\(k=0\/csz ((k - 1:Nat):Int)<z)) (λk=>4 - k) (0) ?_ ω λk a=>?_
  ·exact wB
  obtain⟨a,d⟩:=a
  repeat'(first|refine gP ?_|(conv=>whnf);first|with_reducible refine Bf.D (λb=>?_) (λb=>?_)|refine CM (RN ω) ?_|refine CM (Tp a) ?_|refine CQ ω ?_)
  all_goals first
   | exact C1 (λz=>[I z]) (xo a c.1 d (by assumption)).symm
   | ((conv=>whnf);refine CG (k+1) ⟨by have:=DW a (by assumption) c.2;omega,.inr (by simpa using (by assumption:csz (k:Nat)<z))⟩ (by have:=DW a (by assumption) c.2;omega) ?_;(exact wB))
 repeat'(first|refine gE ?_|(conv=>whnf);first|with_reducible refine Bf.D (λb=>?_) (λb=>?_)|refine CB (bn z 1 8) ?_)
 all_goals exact C1 (λz=>[I z]) (by unfold aP;(repeat' split)<;>omega)
def lG(z:Int):zzA 64 false [.val none [I z]] .one [I (aP z)]:=by
 refine fO 14 [] Tryz.func64 rfl ?_;by_cases c:1<=z/\z<=8
 ·repeat'(first|refine gE ?_|(conv=>whnf);first|with_reducible refine Bf.D (λa=>?_) (λa=>?_)|refine CB (aG z 1 8) ?_)
  (conv=>whnf)
  refine CH (ι:=Nat) (λk=>[(0,.H .one [I (z)]),(3,.H .one [I ((k:Nat):Int)])]) (λk=>k<=3/\(k=0\/csz ((k - 1:Nat):Int)<z)) (λk=>4 - k) (0) ?_ ω λk b=>?_
  ·exact wB
  obtain⟨b,d⟩:=b
  repeat'(first|refine gP ?_|(conv=>whnf);first|with_reducible refine Bf.D (λa=>?_) (λa=>?_)|refine CB (di _) ?_)
  all_goals first
   | exact C1 (λz=>[I z]) (xo b c.1 d (by assumption)).symm
   | ((conv=>whnf);refine CG (k+1) ⟨by have:=DW b (by assumption) c.2;omega,.inr (by simpa using (by assumption:csz (k:Nat)<z))⟩ (by have:=DW b (by assumption) c.2;omega) ?_;(exact wB))
 repeat'(first|refine gE ?_|(conv=>whnf);first|with_reducible refine Bf.D (λa=>?_) (λa=>?_)|refine CB (aG z 1 8) ?_)
 all_goals exact C1 (λz=>[I z]) (by unfold aP;(repeat' split)<;>omega)
theorem D6(q:bD)(a:Int)(d:bD.sml q):zzA 359 false [.val (some 2) (bD.enc .S q),.val none [I a]] .one [B (q.a5.any (fp a))]:=by
 have j:q.a5.length<=1048576:=d.1;refine fO 21 [] Tryz.func359 rfl ?_
 repeat'(first|refine gP ?_|fail)
 (conv=>whnf)
 refine CH (ι:=Nat) (λi=>[(1,.H .one [I (a)]),(2,.H .box (bD.enc .S q)),(5,.H .one [I ((i:Nat):Int)])]) (λi=>i<=q.a5.length/\(q.a5.take i).any (fp a)=false) (λi=>q.a5.length - i) (0) ?_ ψ λi c=>?_
 ·exact wB
 obtain⟨c,e⟩:=c;by_cases g:i<q.a5.length
 ·have b:=ax g
  repeat'(first|refine gE ?_|(conv=>whnf);first|with_reducible (first|refine CF (aa b) ?_|refine Bf.E (λh=>?_) (λh=>?_)))
  all_goals first
   | exact C1 (λz=>[B z]) ((Le b (O0 (by assumption))).symm)
   | ((conv=>whnf);refine CG (i+1) ⟨ω,Gv b e (X0 (by assumption))⟩ ω ?_;(exact wB))
 repeat'(first|refine gE ?_|fail)
 exact C1 (λz=>[B z]) ψ
def jD(xs:List aO)(i:Nat):quarCells xs (i+1)=quarCells xs i+csz (nth xs i).d:=rfl
theorem Q3(k:Int):0<=csz k/\csz k<=8:=by grind [bZ,csz]
theorem Ga(xs:List aO)(c:mi xs):zzA 360 false [.val none (dX .S xs)] .one [I (quarCells xs xs.length)]:=by
 have g:=c.1;refine fO 20 [] Tryz.func360 rfl ?_
 repeat'(first|refine gP ?_|fail)
 (conv=>whnf)
 refine CH (ι:=Nat) (λi=>[(0,.H .one (dX .S xs)),(3,.H .one [I (quarCells xs i)]),(4,.H .one [I ((i:Nat):Int)])]) (λi=>i<=xs.length/\0<=quarCells xs i/\quarCells xs i<=8*i) (λi=>xs.length - i) (0) ?_ (⟨Z0 _,by simp[quarCells],by simp[quarCells]⟩) λi b=>?_
 ·exact wB
 obtain⟨b,h,j⟩:=b;by_cases d:i<xs.length
 ·have e:=ax d
  have k:=Q3 (nth xs i).d;have a:=jD xs i
  repeat'(first|refine gE ?_|(conv=>whnf);first|with_reducible refine CF (aa e) ?_|refine CB (gJ _) ?_)
  ((conv=>whnf);refine CG (i+1) ω ω ?_)
  rw[a];exact wB
 repeat'(first|refine gE ?_|fail)
 grind
theorem pu(xs:List aO)(c:mi xs):zzA 231 false [.val none (dX .S xs)] .one [I (quarCells xs xs.length)]:=by
 have g:=c.1;refine fO 19 [] Tryz.func231 rfl ?_
 repeat'(first|refine gP ?_|fail)
 (conv=>whnf)
 refine CH (ι:=Nat) (λi=>[(3,.H .one [I (quarCells xs i)]),(6,.H .one (dX .S xs)),(7,.H .one [I (xs.length)]),(8,.H .one [I ((i:Nat):Int)])]) (λi=>i<=xs.length/\0<=quarCells xs i/\quarCells xs i<=8*i) (λi=>xs.length - i) (0) ?_ (⟨Z0 _,by simp[quarCells],by simp[quarCells]⟩) λi b=>?_
 ·exact wB
 obtain⟨b,h,j⟩:=b;by_cases d:i<xs.length
 ·have e:=ax d
  have k:=Q3 (nth xs i).d;have a:=jD xs i
  repeat'(first|refine gE ?_|(conv=>whnf);first|with_reducible refine CF (aa e) ?_|refine CB (di _) ?_)
  ((conv=>whnf);refine CG (i+1) ω ω ?_)
  rw[a];exact wB
 repeat'(first|refine gE ?_|fail)
 grind
def N2(a:aO):zzA 358 false [.val (some 3) (aO.enc .S a)] .one [B (decide (0<=a.d/\a.d<=3/\0<=a.Addr/\0<=a.b5))]:=by
 refine fO 16 [] Tryz.func358 rfl ?_
 repeat'(first|refine gP ?_|(conv=>whnf);first|with_reducible refine Bf.D (λb=>?_) (λb=>?_)|refine CB (bn _ 0 3) ?_)
 all_goals exact C1 (λz=>[B z]) ((by first|(symm;exact X0 ω)|exact decide_eq_decide.2 ω))
variable{xs:List aO}
theorem PT(a:mi xs)(i:Nat):mi (xs.take i):=⟨by have:=a.1;grind,λ_ _=>trivial⟩
def Up(q:bD)(a:bD.sml q):zzA 213 false [.val (some 2) (bD.enc .S q)] .one [B (gS q)]:=by
 have l:q.a5.length<=1048576:=a.1;refine fO 57 [(5,29,[17,18,19,20,21,22,23,24,25,26,27,28,29,30,31,32,33,34,35,36,37,38,39,40,41,42,43,44,45]),(7,11,[46,47,48,49,50,51,52,53,54,55,56])] Tryz.func213 rfl ?_
 repeat'(first|refine gP ?_|fail)
 (conv=>whnf)
 refine CH (ι:=Nat) (λi=>[(1,.H .box (bD.enc .S q)),(3,.H .one [I ((i:Nat):Int)])]) (λi=>i<=q.a5.length/\dN i (lI q.a5)=true) (λi=>q.a5.length - i) 0 ?_ ⟨Z0 _,rfl⟩ λi e=>?_
 ·exact wB
 obtain⟨e,g⟩:=e;by_cases b:i<q.a5.length
 ·have j:=ax b
  have h:=D6 ⟨0,q.a5.take i⟩ (nth q.a5 i).Addr (PT a i);cases c:(q.a5.take i).any (fp (nth q.a5 i).Addr)<;>rw[show(bD.mk 0 (q.a5.take i)).a5.any (fp (nth q.a5 i).Addr)=_ from c]at h
  all_goals
   repeat'(first|refine gE ?_|(conv=>whnf);first|with_reducible (first|refine CF (aa j) ?_|refine Bf.D (λd=>?_) (λd=>?_))|refine CB (N2 _) ?_|refine CP ω (aa (iG ω b)) ?_|refine Sl.pre i rfl (by simp;omega) (λr k=>by obtain⟨z,-,rfl⟩:=C6.1 k;rfl) (Y5 ..) ?_|refine CB h ?_)
   all_goals first
    | exact C1 (λz=>[B z]) ((by symm;unfold gS;rw[dC b (by unfold lI;first|(rw[c];simp;done)|(rw[X0 ω];rfl))];rfl))
    | ((conv=>whnf);refine CG (i+1) ⟨ω,cO g (by unfold lI;rw[c,O0 ω];rfl)⟩ ω ?_;(exact wB))
 obtain rfl:i=q.a5.length:=ω
 repeat'(first|refine gE ?_|(conv=>whnf);first|with_reducible refine Bf.D (λd=>?_) (λd=>?_)|refine CB (bn _ 0 500) ?_|refine CB (Ga q.a5 a) ?_)
 all_goals exact C1 (λz=>[B z]) ((by unfold gS;rw[g];simp only[Bool.true_and];first|(symm;exact X0 ω)|exact decide_eq_decide.2 ω))
theorem vN(b:aO)(a:Int):zzA 489 false [.val (some 3) (aO.enc .S b),.ptr [I a]] .one [B (fp a b)]:=by
 refine fO 8 [] Tryz.func489 rfl ?_
 repeat'(first|refine gP ?_|fail)
 grind [fp]
def AB(xs:List aO)(a:Int)(b:xs.length<=9223372036854775807):zzA 378 false [.val none (dX .S xs),.val none [I a]] .one [B (xs.any (fp a))]:=by
 refine fO 8 [] Tryz.func378 rfl ?_
 repeat'(first|refine gP ?_|(conv=>whnf);first|refine Cq.mk (nl (some 3) (aO.enc .S) (fp a) xs) (vN default a).has (λL k rcs c=>?_) ?_|refine CB (sv xs (fp a) b) ?_)
 ·obtain⟨y,-,rfl,rfl,rfl⟩:=c
  exact vN y a
 rfl
def mK(xs:List aO)(a:aO):Bool:=decide (0<=a.d/\a.d<=3/\0<=a.Addr/\0<=a.b5/\(xs.length=0\/(nth xs (xs.length - 1)).b5<=a.b5))&&!xs.any (fp a.Addr)
theorem uj(xs:List aO)(b:aO)(g:xs.length<=1048576):zzA 230 false [.val none (dX .S xs),.val (some 3) (aO.enc .S b)] .one [B (mK xs b)]:=by
 have c:=AB xs b.Addr ω;cases d:xs.any (fp b.Addr)<;>rw[d]at c
 ·by_cases h:xs.length=0
  ·refine fO 40 [(3,15,[25,26,27,28,29,30,31,32,33,34,35,36,37,38,39])] Tryz.func230 rfl ?_
   repeat'(first|refine gP ?_|(conv=>whnf);first|with_reducible (first|refine Bf.D (λa=>?_) (λa=>?_)|refine Bf.E (λa=>?_) (λa=>?_))|refine CB (fH _) ?_|refine CB c ?_)
   all_goals first
    | exact C1 (λz=>[B z]) ((by unfold mK;rw[d,Bool.not_false,Bool.and_true];first|(symm;exact X0 ω)|(symm;exact O0 ω)|exact decide_eq_decide.2 ω))
    |(exfalso;omega)
    |trace_state
  have e:xs[((xs.length:Int) - 1).toNat]? = some (nth xs (xs.length - 1)):=by rw[show((xs.length:Int) - 1).toNat=xs.length - 1 by omega];grind [ax]
  refine fO 40 [(3,15,[25,26,27,28,29,30,31,32,33,34,35,36,37,38,39])] Tryz.func230 rfl ?_
  repeat'(first|refine gP ?_|(conv=>whnf);first|with_reducible (first|refine Bf.D (λa=>?_) (λa=>?_)|refine Bf.E (λa=>?_) (λa=>?_))|refine CB (fH _) ?_|refine CB c ?_|refine CP ω (aa e) ?_)
  all_goals first
   | exact C1 (λz=>[B z]) ((by unfold mK;rw[d,Bool.not_false,Bool.and_true];first|(symm;exact X0 ω)|(symm;exact O0 ω)|exact decide_eq_decide.2 ω))
   |(exfalso;omega)
   |trace_state
 refine fO 40 [(3,15,[25,26,27,28,29,30,31,32,33,34,35,36,37,38,39])] Tryz.func230 rfl ?_
 repeat'(first|refine gP ?_|(conv=>whnf);first|with_reducible refine Bf.D (λa=>?_) (λa=>?_)|refine CB (fH _) ?_|refine CB c ?_)
 all_goals exact C1 (λz=>[B z]) ((by unfold mK;rw[d];simp))
theorem J8(d:i<xs.length):mK (xs.take i) (nth xs i)=lI xs i:=by
 unfold mK lI;have a:(xs.take i).length=i:=ψ
 rw[a]
 congr 1
 refine decide_eq_decide.2 ?_;by_cases b:i=0
 ·subst b;simp
 have c:nth (xs.take i) (i - 1)=nth xs (i - 1):=by
  have:=ax (xs:=xs) (i:=i - 1) ω
  grind [bk]
 rw[c]
theorem pi(q:bD)(d:bD.sml q):zzA 79 false [.val (some 2) (bD.enc .S q)] .one [B (gS q)]:=by
 have l:q.a5.length<=1048576:=d.1;refine fO 32 [(4,7,[13,14,15,16,17,18,19]),(7,11,[21,22,23,24,25,26,27,28,29,30,31])] Tryz.func79 rfl ?_
 repeat'(first|refine gP ?_|fail)
 (conv=>whnf)
 refine CH (ι:=Nat) (λi=>[(1,.H .box (bD.enc .S q)),(6,.H .one (dX .S q.a5)),(7,.H .one [I (q.a5.length)]),(8,.H .one [I ((i:Nat):Int)])]) (λi=>i<=q.a5.length/\dN i (lI q.a5)=true) (λi=>q.a5.length - i) 0 ?_ ⟨Z0 _,rfl⟩ λi e=>?_
 ·exact wB
 obtain⟨e,g⟩:=e;by_cases a:i<q.a5.length
 ·have h:=ax a
  have b:=uj (q.a5.take i) (nth q.a5 i) ψ;rw[J8 a]at b;cases c:lI q.a5 i<;>rw[c]at b
  all_goals
   repeat'(first|refine gE ?_|(conv=>whnf);first|with_reducible refine CF (aa h) ?_|refine Sl.pre i rfl (by simp;omega) (λr j=>by obtain⟨z,-,rfl⟩:=C6.1 j;rfl) (Y5 ..) ?_|refine CB b ?_)
   all_goals first
    | exact C1 (λz=>[B z]) ((by symm;unfold gS;rw[dC a c];rfl))
    | ((conv=>whnf);refine CG (i+1) ⟨ω,cO g c⟩ ω ?_;(exact wB))
 obtain rfl:i=q.a5.length:=ω
 repeat'(first|refine gE ?_|(conv=>whnf);first|with_reducible refine Bf.D (λk=>?_) (λk=>?_)|refine CB (aG _ 0 500) ?_|refine CB (pu q.a5 d) ?_)
 all_goals exact C1 (λz=>[B z]) ((by unfold gS;rw[g];simp only[Bool.true_and];first|(symm;exact X0 ω)|exact decide_eq_decide.2 ω))
def FE(h:ac):Prop:=aL.sml h.G.F.Q
def w9(h:ac)(p:Int)(a:FE h):zzA 355 false [.val (some 24) (ac.enc .S h),.val none [I p]] .one (aJ .own (bB h p)):=by
 refine fO 23 [] Tryz.func355 rfl ?_ (.inr (bQ _))
 repeat'((conv=>whnf);first|with_reducible (first|refine Lm ?_|refine Wm ω ?_|refine Bf.E (λb=>?_) (λb=>?_)|refine Bn ?_|refine js.wk rfl ?_)|refine Bt ?_|refine Bu ?_|refine CB (me h.G.F.Q p a) ?_|refine CB (gZ h.G.F.Q _ a) ?_)
 all_goals(unfold bB;first|rw[CD (by assumption)]|rw[CC (by assumption)])
 all_goals exact⟨rfl,trivial⟩
def ll(h:ac)(p:Int)(a:FE h):zzA 227 false [.val (some 24) (ac.enc .S h),.val none [I p]] .one (aJ .own (bB h p)):=by
 refine fO 22 [] Tryz.func227 rfl ?_ (.inr (bQ _))
 repeat'((conv=>whnf);first|with_reducible (first|refine Lm ?_|refine Wm ω ?_|refine Bf.E (λb=>?_) (λb=>?_)|refine Bn ?_|refine js.wk rfl ?_)|refine Bt ?_|refine Bu ?_|refine CB (cz h.G.F.Q p a) ?_|refine CB (l7 h.G.F.Q _ a) ?_)
 all_goals(unfold bB;first|rw[CD (by assumption)]|rw[CC (by assumption)])
 all_goals exact⟨rfl,trivial⟩
theorem eP(k:am)(p:Int)(a:aL.sml k.F.Q):zzA 127 false [.val (some 5) (am.enc .S k),.val none [I p]] .one [B (decide ((af k.F.Q p).e≠0))]:=by
 refine fO 12 [] Tryz.func127 rfl ?_
 repeat'(first|refine gP ?_|(conv=>whnf);first|refine CB (cz k.F.Q p a) ?_)
 grind
def pw(z:Int):zzA 83 false [.val none [I z]] .one [B (decide (0<=z/\z<=1073741823))]:=by
 refine fO 5 [] Tryz.func83 rfl ?_
 repeat'(first|refine gP ?_|(conv=>whnf);first|refine CB (aG z 0 1073741823) ?_)
 rfl
theorem GB(h:ac)(p:Int)(g:h.K.length<=1048576):zzA 219 false [.val (some 24) (ac.enc .S h),.val none [I p]] .one [I (jY h p)]:=by
 refine fO 22 [] Tryz.func219 rfl ?_
 repeat'(first|refine gP ?_|fail)
 (conv=>whnf)
 refine CH (ι:=Nat) (λi=>[(1,.H .one [I (p)]),(2,.H .box (ac.enc .S h)),(5,.H .one [I ((i:Nat):Int)])]) (λi=>i<=h.K.length/\∀(j:Nat)(z:aA),j<i->h.K[j]? = some z->ow p z=false) (λi=>h.K.length - i) (0) ?_ ψ λi c=>?_
 ·exact wB
 obtain⟨c,a⟩:=c;by_cases d:i<h.K.length
 ·have b:=ax d
  repeat'(first|refine gE ?_|(conv=>whnf);first|with_reducible (first|refine CF (aa b) ?_|refine Bf.E (λe=>?_) (λe=>?_)))
  all_goals first
   | exact C1 (λz=>[I z]) (eD b (O0 (by assumption)) a).symm
   | ((conv=>whnf);refine CG (i+1) ⟨ω,iE b (X0 (by assumption)) a⟩ ω ?_;(exact wB))
 repeat'(first|refine gE ?_|fail)
 exact C1 (λz=>[I z]) (gQ ω a).symm
theorem Bp(s:aA)(p:Int):zzA 241 false [.val (some 3) (aA.enc .S s),.ptr [I p]] .one [B (ow p s)]:=by
 refine fO 8 [] Tryz.func241 rfl ?_
 repeat'(first|refine gP ?_|fail)
 grind [ow]
def vP(h:ac)(p:Int)(b:h.K.length<=1048576):zzA 85 false [.val (some 24) (ac.enc .S h),.val none [I p]] .one [I (jY h p)]:=by
 refine fO 9 [] Tryz.func85 rfl ?_
 repeat'(first|refine gP ?_|(conv=>whnf);first|refine Cq.mk (nl (some 3) (aA.enc .S) (ow p) h.K) (Bp default p).has (λL k rcs a=>?_) ?_|refine CB (xL h.K (ow p) ω) ?_)
 ·obtain⟨y,-,rfl,rfl,rfl⟩:=a
  exact Bp y p
 rfl
def flight1(m:aM)(i:Nat):List Int:=(m.U.take i).flatMap λl=>l.map (·.Addr)
def flight2(m:aM)(i:Nat):List Int:=(m.u.take i).flatten
theorem o7{l:List cW}(h:m.U[i]? = some l):flight1 m (i+1)=flight1 m i++l.map (·.Addr):=by grind [Y7,flight1]
theorem oc(h:m.u[i]? = some l):flight2 m (i+1)=flight2 m i++l:=by grind [Y7,flight2]
theorem pY(h:bU m=true):aY m=flight1 m m.U.length++flight2 m m.u.length:=by grind [aY,flight1,flight2]
theorem vK(h:bU m=false):aY m=[]:=by grind [aY]
theorem tK(h:bU m=true):1<=m.U.length/\m.U.length<=4/\m.u.length=m.U.length:=by grind [bU]
def Ha : ∀r∈l.map (rI .S),r.length=1:=by
 intro r a;obtain⟨z,-,rfl⟩:=C6.1 a;rfl
def KZ : ∀r∈l.map (rI .S),bp r=true:=by
 intro r a;obtain⟨z,-,rfl⟩:=C6.1 a;rfl
theorem RD(m:aM)(g:aM.sml m):zzA 35 false [.val (some 2) (aM.enc .S m)] .one (aJ .own (aY m)):=by
 have h:=FX m g;cases d:bU m<;>rw[d]at h
 ·refine fO 56 [] Tryz.func35 rfl ?_ (.inr (bQ _))
  repeat'((conv=>whnf);first|with_reducible (first|refine Lm ?_|refine Wm ω ?_|refine Bn ?_|refine js.wk rfl ?_)|refine Bt ?_|refine Bu ?_|refine CB h ?_)
  all_goals(rw[vK d];exact⟨rfl,trivial⟩)
 obtain⟨D,E,F⟩:=tK d;refine fO 56 [] Tryz.func35 rfl ?_ (.inr (bQ _))
 repeat'(first|refine gP ?_|(conv=>whnf);first|refine CB h ?_)
 (conv=>whnf)
 refine CH (ι:=Nat × List Int) (λi=>[(1,.H .box (aM.enc .S m)),(3,.H .one (aJ .own i.2)),(4,.H .one [I ((i.1:Nat):Int)])]) (λi=>i.1<=m.U.length/\i.2=flight1 m i.1/\i.2.length<=1048576*i.1) (λi=>m.U.length - i.1) ((0,[])) ?_ (⟨Z0 _,rfl,Z0 _⟩) λi j=>?_
 ·exact wB
 obtain⟨i,S⟩:=i;obtain⟨j,p,t⟩:=j;simp only at j p t |-;by_cases q:i<m.U.length
 ·have l:=ax q
  have u:(nth m.U i).length<=1048576:=(g.1.2 _ (au q)).1
  repeat'(first|refine gE ?_|(conv=>whnf);first|with_reducible refine CF (aa l) ?_)
  (conv=>whnf)
  refine CH (ι:=Nat × List Int) (λk=>[(1,.H .box (aM.enc .S m)),(3,.H .one (aJ .own k.2)),(4,.H .one [I ((i:Nat):Int)]),(5,.H .one [I ((k.1:Nat):Int)])]) (λk=>k.1<=(nth m.U i).length/\k.2=S++((nth m.U i).take k.1).map (·.Addr)) (λk=>(nth m.U i).length - k.1) ((0,S)) ?_ ψ λk b=>?_
  ·exact wB
  obtain⟨k,c⟩:=k;obtain⟨b,a⟩:=b;simp only at b a |-;have w:c.length=S.length+k:=ψ
  by_cases e:k<(nth m.U i).length
  ·have n:=ax e
   repeat'(first|refine gE ?_|(conv=>whnf);first|with_reducible (first|refine CF (aa l) ?_|refine CF (aa n) ?_)|refine CU dU (λr y=>by rw[C2.1 y];rfl) (by simp[bp,fx]) (by simp;omega) (by show _*8<=_;simp;omega) rfl ?_)
   ((conv=>whnf)
    refine CG (k+1,c++[(nth (nth m.U i) k).Addr]) ⟨(by simp only;omega),(by grind [Y7])⟩ (by simp only;omega) ?_
    (repeat'(first|exact trivial|rfl|exact CL rfl (CL (C1 (C.s dQ.own) (by simp[rI])) trivial)|refine CL ?_ ?_)))
  obtain rfl:k=(nth m.U i).length:=ω
  rw[I7]at a
  repeat'(first|refine gE ?_|(conv=>whnf);first|with_reducible refine CF (aa l) ?_)
  ((conv=>whnf);refine CG (i+1,c) ⟨(by simp only;omega),(by grind [o7]),(by simp only;omega)⟩ (by simp only;omega) ?_;(exact wB))
 obtain rfl:i=m.U.length:=ω
 repeat'(first|refine gE ?_|fail)
 (conv=>whnf)
 refine CH (ι:=Nat × List Int) (λk=>[(1,.H .box (aM.enc .S m)),(3,.H .one (aJ .own k.2)),(6,.H .one [I ((k.1:Nat):Int)])]) (λk=>k.1<=m.u.length/\k.2=S++flight2 m k.1/\k.2.length<=S.length+1048576*k.1) (λk=>m.u.length - k.1) ((0,S)) ?_ (⟨Z0 _,by simp[flight2],by simp⟩) λk b=>?_
 ·exact wB
 obtain⟨k,c⟩:=k;obtain⟨b,a,o⟩:=b;simp only at b a o |-;by_cases e:k<m.u.length
 ·have n:=ax e
  have B:(nth m.u k).length<=1048576:=g.2.2 _ (au e)
  repeat'(first|refine gE ?_|(conv=>whnf);first|with_reducible refine CF (aa n) ?_|refine CU dU Ha (λ_=>KZ) (by simp;omega) (by show _*8<=_;simp;omega) rfl ?_)
  ((conv=>whnf)
   refine CG (k+1,c++nth m.u k) ⟨(by simp only;omega),(by grind [oc]),ψ⟩ (by simp only;omega) ?_
   (repeat'(first|exact trivial|rfl|exact CL rfl (CL (C1 (C.s dQ.own) (by simp[rI])) trivial)|refine CL ?_ ?_)))
 obtain rfl:k=m.u.length:=ω
 repeat'(first|refine gE ?_|fail)
 rw[pY d,<-p,<-a];rfl
theorem AG(m:aM)(g:aM.sml m):zzA 237 false [.val (some 2) (aM.enc .S m)] .one (aJ .own (aY m)):=by
 have h:=mD m g;cases d:bU m<;>rw[d]at h
 ·refine fO 46 [] Tryz.func237 rfl ?_ (.inr (bQ _))
  repeat'((conv=>whnf);first|with_reducible (first|refine Lm ?_|refine Wm ω ?_|refine Bn ?_|refine js.wk rfl ?_)|refine Bt ?_|refine Bu ?_|refine CB h ?_)
  all_goals(rw[vK d];exact⟨rfl,trivial⟩)
 obtain⟨D,E,F⟩:=tK d;refine fO 46 [] Tryz.func237 rfl ?_ (.inr (bQ _))
 repeat'(first|refine gP ?_|(conv=>whnf);first|refine CB h ?_)
 (conv=>whnf)
 refine CH (ι:=Nat × List Int) (λi=>[(1,.H .box (aM.enc .S m)),(3,.H .one (aJ .own i.2)),(15,.H .one (xU .S m.U)),(16,.H .one [I (m.U.length)]),(17,.H .one [I ((i.1:Nat):Int)])]) (λi=>i.1<=m.U.length/\i.2=flight1 m i.1/\i.2.length<=1048576*i.1) (λi=>m.U.length - i.1) ((0,[])) ?_ (⟨Z0 _,rfl,Z0 _⟩) λi j=>?_
 ·exact wB
 obtain⟨i,S⟩:=i;obtain⟨j,o,q⟩:=j;simp only at j o q |-;by_cases p:i<m.U.length
 ·have t:=ax p
  have u:(nth m.U i).length<=1048576:=(g.1.2 _ (au p)).1
  repeat'(first|refine gE ?_|(conv=>whnf);first|with_reducible refine CF (aa t) ?_)
  (conv=>whnf)
  refine CH (ι:=Nat × List Int) (λk=>[(1,.H .box (aM.enc .S m)),(3,.H .one (aJ .own k.2)),(15,.H .one (xU .S m.U)),(16,.H .one [I (m.U.length)]),(17,.H .one [I ((i:Nat):Int)]),(21,.H .one (bO .S (nth m.U i))),(22,.H .one [I ((nth m.U i).length)]),(23,.H .one [I ((k.1:Nat):Int)])]) (λk=>k.1<=(nth m.U i).length/\k.2=S++((nth m.U i).take k.1).map (·.Addr)) (λk=>(nth m.U i).length - k.1) ((0,S)) ?_ ψ λk b=>?_
  ·exact wB
  obtain⟨k,c⟩:=k;obtain⟨b,a⟩:=b;simp only at b a |-;have w:c.length=S.length+k:=ψ
  by_cases e:k<(nth m.U i).length
  ·have l:=ax e
   repeat'(first|refine gE ?_|(conv=>whnf);first|with_reducible refine CF (aa l) ?_|refine CU dU (λr y=>by rw[C2.1 y];rfl) (by simp[bp,fx]) (by simp;omega) (by show _*8<=_;simp;omega) rfl ?_)
   ((conv=>whnf)
    refine CG (k+1,c++[(nth (nth m.U i) k).Addr]) ⟨(by simp only;omega),(by grind [Y7])⟩ (by simp only;omega) ?_
    (repeat'(first|exact trivial|rfl|exact CL rfl (CL (C1 (C.s dQ.own) (by simp[rI])) trivial)|refine CL ?_ ?_)))
  obtain rfl:k=(nth m.U i).length:=ω
  rw[I7]at a
  repeat'(first|refine gE ?_|fail)
  ((conv=>whnf);refine CG (i+1,c) ⟨(by simp only;omega),(by grind [o7]),(by simp only;omega)⟩ (by simp only;omega) ?_;(exact wB))
 obtain rfl:i=m.U.length:=ω
 repeat'(first|refine gE ?_|fail)
 (conv=>whnf)
 refine CH (ι:=Nat × List Int) (λk=>[(3,.H .one (aJ .own k.2)),(35,.H .one (kn .S m.u)),(36,.H .one [I (m.u.length)]),(37,.H .one [I ((k.1:Nat):Int)])]) (λk=>k.1<=m.u.length/\k.2=S++flight2 m k.1/\k.2.length<=S.length+1048576*k.1) (λk=>m.u.length - k.1) ((0,S)) ?_ (⟨Z0 _,by simp[flight2],by simp⟩) λk b=>?_
 ·exact wB
 obtain⟨k,c⟩:=k;obtain⟨b,a,n⟩:=b;simp only at b a n |-;by_cases e:k<m.u.length
 ·have l:=ax e
  have B:(nth m.u k).length<=1048576:=g.2.2 _ (au e)
  repeat'(first|refine gE ?_|(conv=>whnf);first|with_reducible refine CF (aa l) ?_|refine CU dU Ha (λ_=>KZ) (by simp;omega) (by show _*8<=_;simp;omega) rfl ?_)
  ((conv=>whnf)
   refine CG (k+1,c++nth m.u k) ⟨(by simp only;omega),(by grind [oc]),ψ⟩ (by simp only;omega) ?_
   (repeat'(first|exact trivial|rfl|exact CL rfl (CL (C1 (C.s dQ.own) (by simp[rI])) trivial)|refine CL ?_ ?_)))
 obtain rfl:k=m.u.length:=ω
 repeat'(first|refine gE ?_|fail)
 rw[pY d,<-o,<-a];rfl
def tbl(h:ac):aL:=h.G.F.Q
def gY(h:ac):Nat:=h.G.F.Q.J.length
def AY(xs:List aA)(i:Nat):Bool:=decide (i=0\/(nth xs (i - 1)).R<(nth xs i).R)
def BT(xs:List aB)(i:Nat):Bool:=decide (i=0\/(nth xs (i - 1)).R<(nth xs i).R)
def Be(h:ac)(l:aB)(k:Nat):Bool:=decide ((bB h (l.R+(k:Nat))).length=1)
def vE(h:ac)(i:Nat):Bool:=BT h.M i&&dN (nth h.M i).a2.toNat (Be h (nth h.M i))
def DO(h:ac)(p:Nat):Bool:=decide ((nth (tbl h).J p).e≠0↔(p:Int)∈pgs h.K h.M)&&(decide ((nth (tbl h).J p).e≠0) != h.o.any (Gm (p:Nat)))
def pages0(h:ac):Bool:=((dN h.K.length (AY h.K)&&dN h.M.length (vE h))&&(pgs h.K h.M).all λp=>decide (p<gY h))&&dN (gY h) (DO h)
def JM(h:ac)(i:Nat)(q:Int):Bool:=decide (jY h q=(i:Nat)) || (decide (0<=jY h q)&&meshable (nth h.K i) (nth h.K (jY h q).toNat))
def PW(h:ac):Bool:=dN h.K.length λi=>(bB h (nth h.K i).R).all (JM h i)
def mV(h:ac)(i j:Nat):Bool:=decide ((af (tbl h) (nth h.K i).R).j≠(af (tbl h) (nth h.K j).R).j) || meshable (nth h.K i) (nth h.K j)
def pN(h:ac):Bool:=dN h.K.length λi=>dN i (mV h i)
def dP(z:Int)(o:aU):Bool:=decide (o.Id=z)
def ju(h:ac)(o:aU):Bool:=
 let w:=denotes h.K h.M o.Addr
 decide (w.c4=0)&&((decide (w.b0=1)&&decide ((nth h.K w.c2.toNat).d=aP o.q)) || (decide (w.b0=3)&&decide ((nth h.M w.c2.toNat).q=o.q)))
def ia(a:Int)(h:ac)(i:Nat):Bool:=decide ((i=0\/(nth h.O (i - 1)).Addr<(nth h.O i).Addr)/\1<=(nth h.O i).Id/\(nth h.O i).Id<=a/\0<=(nth h.O i).y/\(nth h.O i).y<=h.T.length - 1)
def objAt(a:Int)(h:ac)(i:Nat):Bool:=(ia a h i&&!(h.O.take i).any (dP (nth h.O i).Id))&&ju h (nth h.O i)
def hP(h:ac):Bool:=dN h.O.length (objAt (IntKind.i64.wrap (h.b - 1)) h)
def fK(h:ac)(a c:Int):Bool:=
 let w:=denotes h.K h.M a
 (decide (w.b0=1)&&decide (w.c4=0))&&(decide (c<0) || decide ((nth h.K w.c2.toNat).d=c))
def zh(h:ac)(c:aE)(k:Nat):Bool:=(nth c.a k).all λa=>fK h a (k:Nat)
def ik(h:ac)(c:aE):Bool:=dN c.a.length (zh h c)
def kP(h:ac)(x:aO):Bool:=fK h x.Addr x.d
def oh(h:ac)(a:Int):Bool:=fK h a (-1)
def cJ(h:ac):List Int:=h.T.flatMap λc=>c.a.flatten
def uk(h:ac):Bool:=((h.T.all (ik h))&&h.a7.a5.all (kP h))&&(aY h.a1).all (oh h)
def holders(h:ac):List Int:=((h.O.map (·.Addr)++cJ h)++h.a7.a5.map (·.Addr))++aY h.a1
def qh(sp:List aA)(la:List aB)(a:Nat):Bool:=
 let w:=denotes sp la (a:Nat)
 decide (w.c4=0)&&(decide (w.b0=1) || decide (w.b0=3))
def FB(sp:List aA)(la:List aB)(n:Nat):List Int:=((List.range n).filter (qh sp la)).map λ(i:Nat)=>(i:Int)
def lZ(sp:List aA)(la:List aB):List Int:=FB sp la 512
def Hq(h:ac):Bool:=(uk h&&decide (holders h).Nodup)&&decide ((holders h).length=(lZ h.K h.M).length)
def qk(h:ac):Bool:=h.a7.a5.all λx=>decide (x.b5<=h.b1)
def cT(h:ac):Bool:=decide (0<=h.b3/\h.b3<=1073741823/\0<=h.b1/\h.b1<=1000000/\0<=h.c0/\h.c0<=1000/\1<=h.b/\h.b<=1000000)
def yK(h:ac):Bool:=if h.k then(lu h.Y&&decide (0<=jY h h.Y.W.a3))&&decide (0<=jY h h.Y.W.a0) else xW h.Y
def zP(h:ac):Bool:=((aF h.G&&bH (gY h) h.o)&&bG h.K h.M)&&pages0 h
set_option maxHeartbeats 8000000
theorem eB(h:bG sp la=true):sp.all bh=true/\la.all bK=true/\(pgs sp la).Nodup:=by grind [bG]
def Tn[Inhabited α]{xs:List α}{p:α->Bool}(h:xs.all p=true)(a:i<xs.length):p (nth xs i)=true:=X5.1 h _ (au a)
variable{h:ac}
theorem Ph(h1:dN h.K.length (AY h.K)=false):pages0 h=false:=by grind [pages0]
theorem Gg(h1:dN h.M.length (vE h)=false):pages0 h=false:=by grind [pages0]
theorem Pw(h1:p∈pgs h.K h.M)(a:¬p<gY h):pages0 h=false:=by grind [pages0]
theorem PA(h1:dN (gY h) (DO h)=false):pages0 h=false:=by grind [pages0]
theorem JR(h1:dN h.K.length (AY h.K)=true)(a:dN h.M.length (vE h)=true)(b:∀p∈pgs h.K h.M,p<gY h)(c:dN (gY h) (DO h)=true):pages0 h=true:=by grind [pages0]
theorem UX(h1:BT h.M i=false):vE h i=false:=by grind [vE]
theorem U3(a:k<(nth h.M i).a2.toNat)(h1:Be h (nth h.M i) k=false):vE h i=false:=by grind [dC,vE]
theorem QL(h1:BT h.M i=true)(a:dN (nth h.M i).a2.toNat (Be h (nth h.M i))=true):vE h i=true:=by grind [vE]
def ku(h:ac)(p:Int):(bB h p).length<=gY h:=by
 unfold bB;split
 ·simp
 exact rF ..
theorem BW(h:bG sp la=true){l:aB}(a:la[i]? = some l):1<=l.a2/\l.a2<=63/\0<=l.R/\l.R<=31:=
 aR (X5.1 (eB h).2.1 l ψ)
set_option maxHeartbeats 8000000
def Jh{z1 z2:Int}(h:z1=z2):Tb (I z1) (I z2):=by subst h;rfl
theorem Lx : z∈ins S p↔z∈S\/z=p:=by grind [ins]
theorem zm(S:List Int):(gc S).map (·.1)=S:=by unfold gc;rw[List.map_map];simp[I8]
theorem nk{t:aL}{p:Nat}(a:p<t.J.length):af t (p:Nat)=nth t.J p:=by grind [af]
theorem Fr(h:ac)(G:fL h.K)(H:fG h.M)(d:FE h)(J:gM h.o)(u:bG h.K h.M=true):zzA 77 false [.val (some 24) (ac.enc .S h)] .one [B (pages0 h&&pN h)]:=by
 have hl1:=G.1;have hl2:=H.1;have hl3:gY h<=1048576:=d.1;have hl4:=J.1;have b:pages0 h=false->[B false]=[B (pages0 h&&pN h)]:=ψ
 refine fO 177 [(4,14,[25,26,27,28,29,30,31,32,33,34,35,36,37,38]),(16,14,[60,61,62,63,64,65,66,67,68,69,70,71,72,73]),(28,18,[102,103,104,105,106,107,108,109,110,111,112,113,114,115,116,117,118,119]),(42,23,[152,153,154,155,156,157,158,159,160,161,162,163,164,165,166,167,168,169,170,171,172,173,174])] Tryz.func77 rfl ?_
 repeat'(first|refine gP ?_|fail)
 (conv=>whnf)
 refine CH (ι:=Nat) (λi=>[(1,.H .box (ac.enc .S h)),(18,.H .one (cw .S h.K)),(19,.H .one [I (h.K.length)]),(20,.H .one [I ((i:Nat):Int)])]) (λi=>i<=h.K.length/\dN i (AY h.K)=true) (λi=>h.K.length - i) 0 ?_ ⟨Z0 _,rfl⟩ λi g=>?_
 ·exact wB
 obtain⟨g,C⟩:=g;by_cases o:i<h.K.length
 ·have e:=ax o
  repeat'(first|refine gE ?_|(conv=>whnf);first|with_reducible (first|refine CF (aa e) ?_|refine Bf.D (λa=>?_) (λa=>?_))|refine CP ω (aa (iG ω o)) ?_)
  all_goals first
   |exact b (Ph (dC o (X0 ω)))
   | ((conv=>whnf);refine CG (i+1) ⟨ω,cO C (O0 ω)⟩ ω ?_;(exact wB))
 obtain rfl:i=h.K.length:=ω
 repeat'(first|refine gE ?_|fail)
 (conv=>whnf)
 refine CH (ι:=Nat × List Int) (λi=>[(1,.H .box (ac.enc .S h)),(5,.H .one [.m (gc i.2)]),(42,.H .one (cw .S h.K)),(43,.H .one [I (h.K.length)]),(44,.H .one [I ((i.1:Nat):Int)])]) (λi=>i.1<=h.K.length/\∀z,z∈i.2↔z∈(h.K.take i.1).map (·.R)) (λi=>h.K.length - i.1) ((0,[])) ?_ ψ λi g=>?_
 ·exact wB
 obtain⟨i,S⟩:=i;obtain⟨K,Z⟩:=g;simp only at K Z |-;by_cases li2:i<h.K.length
 ·have e:=ax li2
  repeat'(first|refine gE ?_|(conv=>whnf);first|with_reducible refine CF (aa e) ?_|refine Mu.mk (yF S _) ?_)
  ((conv=>whnf);refine CG (i+1,ins S (nth h.K i).R) ⟨(by simp only;omega),λz=>by grind [Lx,Y7]⟩ (by simp only;omega) ?_;(exact wB))
 obtain rfl:i=h.K.length:=ω
 rw[I7]at Z
 repeat'(first|refine gE ?_|fail)
 (conv=>whnf)
 refine CH (ι:=Nat × List Int) (λk=>[(1,.H .box (ac.enc .S h)),(5,.H .one [.m (gc k.2)]),(53,.H .one (cA .S h.M)),(54,.H .one [I (h.M.length)]),(55,.H .one [I ((k.1:Nat):Int)])]) (λk=>k.1<=h.M.length/\(∀z,z∈k.2↔z∈pgs h.K (h.M.take k.1))/\dN k.1 (vE h)=true) (λk=>h.M.length - k.1) ((0,S)) ?_ (⟨Z0 _,λz=>by grind [pgs],rfl⟩) λk L=>?_
 ·exact wB
 obtain⟨k,S2⟩:=k;obtain⟨L,c,M⟩:=L;simp only at L c M |-;by_cases F:k<h.M.length
 ·have e:=ax F
  have hpg:=BW u e
  repeat'(first|refine gE ?_|(conv=>whnf);first|with_reducible (first|refine CF (aa e) ?_|refine Bf.D (λa=>?_) (λa=>?_))|refine CP ω (aa (iG ω F)) ?_)
  all_goals first
   |exact b (Gg (dC F (UX (X0 ω))))
   |have l:BT h.M k=true:=O0 ω
    (conv=>whnf)
    refine CH (ι:=Nat × List Int) (λq=>[(1,.H .box (ac.enc .S h)),(5,.H .one [.m (gc q.2)]),(9,.H .box (aB.enc .S (nth h.M k))),(10,.H .one [I ((nth h.M k).R+(q.1:Nat))]),(53,.H .one (cA .S h.M)),(54,.H .one [I (h.M.length)]),(55,.H .one [I ((k:Nat):Int)])]) (λq=>q.1<=(nth h.M k).a2.toNat/\(∀z,z∈q.2↔z∈S2++lpgs (nth h.M k) q.1)/\dN q.1 (Be h (nth h.M k))=true) (λq=>(nth h.M k).a2.toNat - q.1) ((0,S2)) ?_ (⟨Z0 _,λz=>by simp[lpgs],rfl⟩) λq a=>?_
    ·exact wB
    obtain⟨q,O⟩:=q;obtain⟨Q,n,R⟩:=a;simp only at Q n R |-;by_cases lq:q<(nth h.M k).a2.toNat
    ·have hfl:=ku h ((nth h.M k).R+(q:Nat))
     repeat'(first|refine gE ?_|(conv=>whnf);first|with_reducible refine Bf.N (λa=>?_) (λa=>?_)|refine CB (ll h _ d) ?_|refine Mu.mk (yF O _) ?_)
     all_goals first
      |exact b (Gg (dC F (U3 lq (X0 ω))))
      | ((conv=>whnf)
         refine CG (q+1,ins O ((nth h.M k).R+(q:Nat))) ⟨(by simp only;omega),λz=>by simp only[Lx,n];rw[nt];simp[or_assoc],cO R (O0 ω)⟩ (by simp only;omega) ?_
         (repeat'(first|exact trivial|rfl|refine CL ?_ ?_|exact Jh (by simp;omega))))
    obtain rfl:q=(nth h.M k).a2.toNat:=ω
    repeat'(first|refine gE ?_|fail)
    ((conv=>whnf);refine CG (k+1,O) ⟨(by simp only;omega),(λz=>by simp only[n];rw[sK _ e];simp[c]),cO M (QL l R)⟩ (by simp only;omega) ?_;(exact wB))
 obtain rfl:k=h.M.length:=ω
 rw[I7]at c
 repeat'(first|refine gE ?_|fail)
 (conv=>whnf)
 refine CH (ι:=Nat) (λp=>[(1,.H .box (ac.enc .S h)),(5,.H .one [.m (gc S2)]),(98,.H .one [I (gY h)]),(99,.H .one [I ((p:Nat):Int)])]) (λp=>p<=gY h/\dN p (DO h)=true) (λp=>gY h - p) 0 ?_ ⟨Z0 _,rfl⟩ λp hp=>?_
 ·exact wB
 obtain⟨hp,ap⟩:=hp;by_cases lp:p<gY h
 ·have T:=AQ h.o (p:Nat) ω
  have w:=eP h.G (p:Nat) d;rw[nk lp]at w
  repeat'(first|refine gE ?_|(conv=>whnf);first|with_reducible (first|refine Bf.D (λa=>?_) (λa=>?_)|refine Bf.NB (λa=>?_) (λa=>?_))|refine CB w ?_|refine Ml.mk (nR (p:Nat) S2) ?_|refine CB T ?_|refine Bf.P (λa=>?_) (λa=>?_))
  all_goals first
   |exact b (PA (dC lp (by unfold DO tbl;have:=c (p:Nat);grind)))
   | ((conv=>whnf);refine CG (p+1) ⟨ω,cO ap (by unfold DO tbl;have:=c (p:Nat);grind)⟩ ω ?_;(exact wB))
 obtain rfl:p=gY h:=ω
 repeat'(first|refine gE ?_|fail)
 have hpn:gY h=h.G.F.Q.J.length:=rfl
 (conv=>whnf)
 refine CH (ι:=Option Int × List Int) (λt=>[(1,.H .box (ac.enc .S h)),(122,.H .one [.it t.1 t.2])]) (λt=>(∀z∈S2,z∈t.2\/z<gY h)/\∀z∈t.2,z∈S2) (λt=>t.2.length) ((none,(gc S2).map (·.1))) ?_ (⟨λz hz=>.inl (by grind [zm]),λz hz=>by grind [zm]⟩) λt ht=>?_
 ·exact wB
 obtain⟨cur,left⟩:=t;obtain⟨U,V⟩:=ht;simp only at U V |-
 repeat'(first|refine gP ?_|(conv=>whnf);first|with_reducible refine Bf.D (λa=>?_) (λa=>?_)|refine Nt.mk (λa=>?_) (λl1 k l2 a=>?_))
 rotate_left
 ·exact b (Pw (p:=k) ψ ω)
 ·((conv=>whnf);refine CG (some k,l1++l2) ψ (by subst left;simp) ?_;(exact wB))
 have y:∀p∈pgs h.K h.M,p<gY h:=ψ
 have h0:pages0 h=true:=JR C M y ap;rw[h0,Bool.true_and]
 (conv=>whnf)
 refine CH (ι:=Nat) (λi=>[(1,.H .box (ac.enc .S h)),(136,.H .one (cw .S h.K)),(137,.H .one [I (h.K.length)]),(138,.H .one [I ((i:Nat):Int)])]) (λi=>i<=h.K.length/\dN i (λi=>dN i (mV h i))=true) (λi=>h.K.length - i) 0 ?_ ⟨Z0 _,rfl⟩ λi g=>?_
 ·exact wB
 obtain⟨g,C⟩:=g;by_cases o:i<h.K.length
 ·have e:=ax o
  have W:(h.K.take i).length=i:=ψ
  repeat'(first|refine gE ?_|(conv=>whnf);first|with_reducible refine CF (aa e) ?_|refine Sl.pre i rfl (by simp;omega) (λr T=>by obtain⟨z,-,rfl⟩:=C6.1 T;rfl) (Y5 ..) ?_)
  (conv=>whnf)
  refine CH (ι:=Nat) (λj=>[(1,.H .box (ac.enc .S h)),(14,.H .box (aA.enc .S (nth h.K i))),(136,.H .one (cw .S h.K)),(137,.H .one [I (h.K.length)]),(138,.H .one [I ((i:Nat):Int)]),(146,.H .one (cw .S (h.K.take i))),(147,.H .one [I ((h.K.take i).length)]),(148,.H .one [I ((j:Nat):Int)])]) (λj=>j<=(h.K.take i).length/\dN j (mV h i)=true) (λj=>(h.K.take i).length - j) 0 ?_ ⟨Z0 _,rfl⟩ λj hj=>?_
  ·exact wB
  obtain⟨hj,X⟩:=hj;by_cases lj:j<(h.K.take i).length
  ·have hy:=ax lj
   have he:nth (h.K.take i) j=nth h.K j:=bk (by grind [ax]);rw[he]at hy;have w:=np (nth h.K i) (nth h.K j);cases Y:meshable (nth h.K i) (nth h.K j)<;>rw[Y]at w
   all_goals
    repeat'(first|refine gE ?_|(conv=>whnf);first|with_reducible (first|refine CF (aa hy) ?_|refine Bf.E (λa=>?_) (λa=>?_))|refine CB (cz (tbl h) _ d) ?_|refine CB w ?_)
    all_goals first
     | exact C1 (λz=>[B z]) ((by symm;exact dC o (dC (i:=j) ω (by unfold mV;rw[Y];grind))))
     | ((conv=>whnf);refine CG (j+1) ⟨ω,cO X (by unfold mV;rw[Y];grind)⟩ ω ?_;(exact wB))
  obtain rfl:j=(h.K.take i).length:=ω
  rw[W]at X
  repeat'(first|refine gE ?_|fail)
  ((conv=>whnf);refine CG (i+1) ⟨ω,cO C X⟩ ω ?_;(exact wB))
 obtain rfl:i=h.K.length:=ω
 repeat'(first|refine gE ?_|fail)
 exact C1 (λz=>[B z]) ((by grind [pN]))
set_option maxHeartbeats 8000000
def vS[Inhabited α](pr:α->Bool)(xs:List α):cF pr xs = -1\/∃n,n<xs.length/\cF pr xs=(n:Nat)/\pr (nth xs n)=true:=by
 unfold cF;cases h:xs.findIdx? pr with
 | none=>exact .inl rfl
 | some i=>
  obtain⟨a,b,-⟩:=X9.1 h;exact .inr ⟨i,a,rfl,by rw[bk (I3 a)];exact b⟩
theorem sj(sp:List aA)(la:List aB)(a:Int):((denotes sp la a).b0=1->0<=(denotes sp la a).c2/\(denotes sp la a).c2.toNat<sp.length)/\((denotes sp la a).b0=3->0<=(denotes sp la a).c2/\(denotes sp la a).c2.toNat<la.length):=by grind [X9,denotes,o8]
theorem Da(h:ac)(o:aU)(w:kb)(a:denotes h.K h.M o.Addr=w):ju h o=(decide (w.c4=0)&&((decide (w.b0=1)&&decide ((nth h.K w.c2.toNat).d=aP o.q)) || (decide (w.b0=3)&&decide ((nth h.M w.c2.toNat).q=o.q)))):=by grind [ju]
def jS(a:i<h.O.length)(b:objAt (IntKind.i64.wrap (h.b - 1)) h i=false):hP h=false:=dC a b
theorem LD(h1:ia a h i=false):objAt a h i=false:=by grind [objAt]
theorem Ls(h1:(h.O.take i).any (dP (nth h.O i).Id)=true):objAt a h i=false:=by grind [objAt]
theorem KY(h1:ju h (nth h.O i)=false):objAt a h i=false:=by grind [objAt]
theorem B1(h1:ia a h i=true)(b:(h.O.take i).any (dP (nth h.O i).Id)=false)(c:ju h (nth h.O i)=true):objAt a h i=true:=by grind [objAt]
theorem Vi(h:ac)(l:fL h.K)(n:fG h.M)(g:bG h.K h.M=true)(K:h.O.length<=1048576)(L:h.T.length<=1048576)(H:∀o∈h.O,pd o.Addr):zzA 215 false [.val (some 24) (ac.enc .S h)] .one [B (hP h)]:=by
 refine fO 117 [(5,33,[21,22,23,24,25,26,27,28,29,30,31,32,33,34,35,36,37,38,39,40,41,42,43,44,45,46,47,48,49,50,51,52,53]),(10,9,[59,60,61,62,63,64,65,66,67]),(13,16,[75,76,77,78,79,80,81,82,83,84,85,86,87,88,89,90]),(14,15,[91,92,93,94,95,96,97,98,99,100,101,102,103,104,105])] Tryz.func215 rfl ?_
 repeat'(first|refine gP ?_|fail)
 (conv=>whnf)
 refine CH (ι:=Nat) (λi=>[(1,.H .box (ac.enc .S h)),(3,.H .one [I ((i:Nat):Int)])]) (λi=>i<=h.O.length/\dN i (objAt (IntKind.i64.wrap (h.b - 1)) h)=true) (λi=>h.O.length - i) 0 ?_ ⟨Z0 _,rfl⟩ λi t=>?_
 ·exact wB
 obtain⟨t,u⟩:=t;by_cases e:i<h.O.length
 ·have y:=ax e
  have C:=Eg h.K h.M (nth h.O i).Addr l n g (H _ (au e));obtain⟨p,q⟩:=sj h.K h.M (nth h.O i).Addr;have b:=Da h (nth h.O i) _ rfl;generalize denotes h.K h.M (nth h.O i).Addr=w at C p q b;by_cases c:ia (IntKind.i64.wrap (h.b - 1)) h i=true
  ·have a:=c
   unfold ia at a;rw[C0]at a
   repeat'(first|refine gE ?_|(conv=>whnf);first|with_reducible (first|refine CF (aa y) ?_|refine Bf.D (λd=>?_) (λd=>?_))|refine CP ω (aa (iG ω e)) ?_|refine CB (bn _ _ _) ?_|refine CM rfl ?_)
   all_goals
    (conv=>whnf)
    refine CH (ι:=Nat) (λk=>[(1,.H .box (ac.enc .S h)),(3,.H .one [I ((i:Nat):Int)]),(4,.H .box (aU.enc .S (nth h.O i))),(5,.H .one [I ((k:Nat):Int)])]) (λk=>k<=i/\(h.O.take k).any (dP (nth h.O i).Id)=false) (λk=>i - k) (0) ?_ (⟨Z0 _,rfl⟩) λk F=>?_
    ·exact wB
    obtain⟨F,G⟩:=F;by_cases J:k<i
    ·have r:=ax (xs:=h.O) (i:=k) ω
     repeat'(first|refine gE ?_|(conv=>whnf);first|with_reducible (first|refine CF (aa r) ?_|refine Bf.E (λd=>?_) (λd=>?_)))
     all_goals first
      | exact C1 (λz=>[B z]) ((jS e (Ls (Le (i:=k) (by rw[List.getElem?_take_of_lt J];exact r) (O0 (by assumption))))).symm)
      | ((conv=>whnf);refine CG (k+1) ⟨ω,Gv r G (X0 (by assumption))⟩ ω ?_;(exact wB))
    obtain rfl:k=i:=ω
    repeat'(first|refine gE ?_|(conv=>whnf);first|with_reducible (first|refine Bf.D (λd=>?_) (λd=>?_)|refine Bf.E (λd=>?_) (λd=>?_)|refine Bf.N (λd=>?_) (λd=>?_))|refine CB C ?_|refine CP (p (by assumption)).1 (aa (ax (p (by assumption)).2)) ?_|refine CP (q (by assumption)).1 (aa (ax (q (by assumption)).2)) ?_|refine CB (Dx _) ?_)
    all_goals first
     | exact C1 (λz=>[B z]) ((jS e (KY (by rw[b];grind))).symm)
     | ((conv=>whnf);refine CG (k+1) ⟨ω,cO u (B1 c G (by rw[b];grind))⟩ ω ?_;(exact wB))
     |(exfalso;omega)
  have j:ia (IntKind.i64.wrap (h.b - 1)) h i=false:=by simpa using c
  have a:=j;unfold ia at a;rw[X6]at a
  repeat'(first|refine gE ?_|(conv=>whnf);first|with_reducible (first|refine CF (aa y) ?_|refine Bf.D (λd=>?_) (λd=>?_))|refine CP ω (aa (iG ω e)) ?_|refine CB (bn _ _ _) ?_|refine CM rfl ?_)
  all_goals first
   | exact C1 (λz=>[B z]) ((jS e (LD j)).symm)
   |(exfalso;omega)
 obtain rfl:i=h.O.length:=ω
 repeat'(first|refine gE ?_|fail)
 exact C1 (λz=>[B z]) ((show true=hP h from u.symm))
theorem qA(o a:aU):zzA 234 false [.val (some 4) (aU.enc .S o),.ptr (aU.enc .S a)] .one [B (dP a.Id o)]:=by
 refine fO 9 [] Tryz.func234 rfl ?_
 repeat'(first|refine gP ?_|fail)
 grind [dP]
theorem Ht(h:ac)(n:fL h.K)(o:fG h.M)(J:h.O.length<=1048576)(K:h.T.length<=1048576):zzA 81 false [.val (some 24) (ac.enc .S h)] .one [B (hP h)]:=by
 refine fO 105 [(4,33,[16,17,18,19,20,21,22,23,24,25,26,27,28,29,30,31,32,33,34,35,36,37,38,39,40,41,42,43,44,45,46,47,48]),(9,16,[62,63,64,65,66,67,68,69,70,71,72,73,74,75,76,77]),(10,15,[78,79,80,81,82,83,84,85,86,87,88,89,90,91,92])] Tryz.func81 rfl ?_
 repeat'(first|refine gP ?_|fail)
 (conv=>whnf)
 refine CH (ι:=Nat) (λi=>[(1,.H .box (ac.enc .S h)),(9,.H .one (ml .S h.O)),(10,.H .one [I (h.O.length)]),(11,.H .one [I ((i:Nat):Int)])]) (λi=>i<=h.O.length/\dN i (objAt (IntKind.i64.wrap (h.b - 1)) h)=true) (λi=>h.O.length - i) 0 ?_ ⟨Z0 _,rfl⟩ λi F=>?_
 ·exact wB
 obtain⟨F,G⟩:=F;by_cases g:i<h.O.length
 ·have p:=ax g
  have H:=lA h.K h.M (nth h.O i).Addr n o;obtain⟨q,t⟩:=sj h.K h.M (nth h.O i).Addr;have b:=Da h (nth h.O i) _ rfl;generalize denotes h.K h.M (nth h.O i).Addr=w at H q t b;have j:=uw (h.O.take i) (dP (nth h.O i).Id) ψ;by_cases c:ia (IntKind.i64.wrap (h.b - 1)) h i=true
  ·have a:=c
   unfold ia at a;rw[C0]at a;cases d:(h.O.take i).any (dP (nth h.O i).Id)<;>rw[d]at j
   ·repeat'(first|refine gE ?_|(conv=>whnf);first|with_reducible (first|refine CF (aa p) ?_|refine Bf.D (λe=>?_) (λe=>?_)|refine Bf.E (λe=>?_) (λe=>?_)|refine Bf.N (λe=>?_) (λe=>?_))|refine CP ω (aa (iG ω g)) ?_|refine CB (aG _ _ _) ?_|refine Sl.pre i rfl (by simp;omega) (λr u=>by obtain⟨z,-,rfl⟩:=C6.1 u;rfl) (Y5 ..) ?_|refine Cq.mk (nl (some 4) (aU.enc .S) (dP (nth h.O i).Id) (h.O.take i)) (qA default (nth h.O i)).has (λL k rcs C=>by obtain⟨y,-,rfl,rfl,rfl⟩:=C;exact qA y (nth h.O i)) ?_|refine CB j ?_|refine CB H ?_|refine CP (q (by assumption)).1 (aa (ax (q (by assumption)).2)) ?_|refine CP (t (by assumption)).1 (aa (ax (t (by assumption)).2)) ?_|refine CB (lG _) ?_|refine CM rfl ?_)
    all_goals first
     | exact C1 (λz=>[B z]) ((jS g (KY (by rw[b];grind))).symm)
     | ((conv=>whnf);refine CG (i+1) ⟨ω,cO G (B1 c d (by rw[b];grind))⟩ ω ?_;(exact wB))
     |(exfalso;omega)
   repeat'(first|refine gE ?_|(conv=>whnf);first|with_reducible (first|refine CF (aa p) ?_|refine Bf.D (λe=>?_) (λe=>?_))|refine CP ω (aa (iG ω g)) ?_|refine CB (aG _ _ _) ?_|refine Sl.pre i rfl (by simp;omega) (λr u=>by obtain⟨z,-,rfl⟩:=C6.1 u;rfl) (Y5 ..) ?_|refine Cq.mk (nl (some 4) (aU.enc .S) (dP (nth h.O i).Id) (h.O.take i)) (qA default (nth h.O i)).has (λL k rcs C=>by obtain⟨y,-,rfl,rfl,rfl⟩:=C;exact qA y (nth h.O i)) ?_|refine CB j ?_|refine CM rfl ?_)
   all_goals first
    | exact C1 (λz=>[B z]) ((jS g (Ls d)).symm)
    |(exfalso;omega)
  have l:ia (IntKind.i64.wrap (h.b - 1)) h i=false:=by simpa using c
  have a:=l;unfold ia at a;rw[X6]at a
  repeat'(first|refine gE ?_|(conv=>whnf);first|with_reducible (first|refine CF (aa p) ?_|refine Bf.D (λe=>?_) (λe=>?_))|refine CP ω (aa (iG ω g)) ?_|refine CB (aG _ _ _) ?_|refine CM rfl ?_)
  all_goals first
   | exact C1 (λz=>[B z]) ((jS g (LD l)).symm)
   |(exfalso;omega)
 obtain rfl:i=h.O.length:=ω
 repeat'(first|refine gE ?_|fail)
 exact C1 (λz=>[B z]) ((show true=hP h from G.symm))
set_option maxHeartbeats 8000000
theorem xI{w:kb}(a:denotes sp la (n:Nat)=w):qh sp la n=(decide (w.c4=0)&&(decide (w.b0=1) || decide (w.b0=3))):=by grind [qh]
theorem yu(m:aM)(a:m.u.length=m.U.length):∀i,i<=m.U.length->(((flight1 m i).length+(flight2 m i).length:Nat):Int)=bA m i
 | 0,_=>rfl
 | i+1,h=>by
  have d:=yu m a i ω;have b:=ax (xs:=m.U) (i:=i) ω;have c:=ax (xs:=m.u) (i:=i) ω;rw[o7 b,oc c];simp only[X4,O1];show _=bA m i+((nth m.U i).length+(nth m.u i).length);omega
theorem Dv(h:bU m=true):(aY m).length<=30:=by grind [yu,pY,bU]
theorem HB(a:h.T[i]? = some c):((h.T.take (i+1)).flatMap λc=>c.a.flatten)=((h.T.take i).flatMap λc=>c.a.flatten)++c.a.flatten:=by grind [Y7]
theorem Kj(a:c.a[k]? = some l):(c.a.take (k+1)).flatten=(c.a.take k).flatten++l:=by grind [Y7]
set_option maxHeartbeats 8000000
def gf(h:ac):Bool:=(bU h.a1&&decide (h.T.length=h.a1.U.length))&&gS h.a7
def fg(h:ac):Bool:=((((((zP h&&PW h)&&gf h)&&qk h)&&h.T.all bI)&&cT h)&&(hP h&&Hq h))&&yK h
def sorted(xs:List Int):List Int:=xs.mergeSort λx y=>decide (x<=y)
theorem yG(xs:List Int):(sorted xs).length=xs.length:=List.length_mergeSort ..
theorem K4{w w':World}{g:Nat}{d:Array Int}{f:Array Obj}{c:Array Value}{e:TypeId}{h:Nat × Nat}(i:w.heap[g]? = some (.cells c e h))(j:w'=Sort.grow (Sort.putRow (Value.int .i64) (Sort.ahead w n) g 0 d) f) :
  w'.os=w.os/\w'.tape=w.tape/\w'.output=w.output/\w.heap.size<=w'.heap.size/\(∀b,b<w.heap.size->b≠g->w'.heap[b]? = w.heap[b]?)/\w'.heap[g]? = some (.cells (Sort.putCells (Value.int .i64) 0 d c) e h):=by
 subst j;have a:g<w.heap.size:=ψ
 have k:∀b,b<w.heap.size->(Sort.grow (Sort.putRow (Value.int .i64) (Sort.ahead w n) g 0 d) f).heap[b]? = if g=b then(w.heap[b]?).map (Sort.onCells (Sort.putCells (Value.int .i64) 0 d)) else w.heap[b]?:=λb l=>by grind [Go.Sort.heap_grow_old,Go.Sort.putRow,Go.Sort.mapBlock,Go.Sort.ahead]
 refine⟨rfl,rfl,rfl,?_,λb l o=>?_,?_⟩
 ·grind
 ·grind
 rw[k g a,CD rfl,i];rfl
theorem Td(d:Array Int)(c:Array Value)(q:Nat):(Sort.putCells (Value.int .i64) 0 d c)[q]? = if q<d.size then(c[q]?).map (λ_=>.int .i64 d[q]!) else c[q]?:=by grind [Go.Sort.putCells]
theorem row1{w:World}{S Y:ah}{c:C}{v:Value}(h:dK w S Y c v):cK w S Y [c] (λ_=>v):=by
 refine⟨λ_=>Y,λj a b=>?_,λ_ _ _ _ h=>h,ψ⟩
 all_goals grind
def Wx(Y:ah):Nat->ah
 | 0=>Y
 | _+1=>NO
theorem Re(xs:List Int)(a:j<xs.length):xs.toArray[j]! = xs[j]:=ψ
theorem Ud(xs:List Int)(hl:xs.length<=1048576*64):zzB 383 false [.mut none (aJ .own xs)] [.mut none (aJ .own (sorted xs))] (.tup []) []:=by
 refine⟨⟨_,Tryz.func383,by kernel_rfl,by kernel_rfl⟩,λw S V vs hS hV hVV M=>?_⟩
 match vs,M with
 | [v],⟨M,_⟩=>
  have p:=br.rep1 (show br w S (V 0) none [C.s .own (xs.map (rI .own))] v from M);generalize E:C.s .own (xs.map (rI .own))=cc at p;cases p with
  | nil _ o a ho=>
   cases Z:xs with
   | cons x xs'=>grind
   | nil=>
    refine(Tryz.slices_Sort_int_none a 0 w).mono λe w' ⟨N,y⟩=>?_
    subst y;refine⟨.tuple #[],N,CY _ _,NO,λ_=>NO,NO,λ_ _ h=>h.elim,λ_ _ _ h=>h.elim,λ_ _ h=>h.elim,λ_ _ _ _ _ h=>h.elim,λ_ _ _ h=>h.elim,λ_ _ h=>h.elim,λ_ _ _ h=>h.elim,⟨#[],rfl,trivial,rfl⟩,cK.nil _ _ _ _,⟨⟨rfl,λ_=>.slice a 0 0,rfl,row1 (by rw[show sorted []=[] from List.mergeSort_nil ..];exact .nil _ .own _ trivial)⟩,trivial⟩⟩
  | own _ o g k n B rows u f ho hn hk F G hF hu hf hd hc=>
   cases E;have O:n=xs.length:=ψ
   have P:0<xs.length:=ω
   have Q:k=1:=by
    have:=hk (rI .own xs[0]) ψ;exact this.symm
   subst Q O;have t:∀j (l:j<xs.length),cel w g j=some (.int .i64 xs[j]):=λj l=>by
    have h1:=hu j ω;have R:=hc j 0 (rI .own xs[j]) (I xs[j]) ψ rfl;rw[Nat.mul_one,Nat.add_zero]at R;rw[h1];generalize u j=z at R;cases R
    rfl
   have T:g<w.heap.size:=ψ
   obtain⟨c,e0,fr,hg,-⟩:=Sort.cells_of_cell? (t 0 P);have hH:Sort.Holds (Value.int .i64) w g 0 xs.toArray:=λj l=>by
    have H:j<xs.length:=by simpa using l
    refine⟨?_,?_⟩
    ·rw[Re xs H,W9];exact t j H
    rw[W9];exact C1 Prod.fst (hF j ω).2.2
   refine(Tryz.slices_Sort_int g 0 B xs w hH T ω).mono λe w' ⟨N,m,os,y⟩=>?_
   obtain⟨q1,q2,q3,q4,q5,q6⟩:=K4 hg y;have hsl:=yG xs;have hcel:∀q,cel w g q=c[q]?:=λq=>by grind [Go.World.cell?]
   have U:∀q,cel w' g q=if q<xs.length then(c[q]?).map (λ_=>.int .i64 (sorted xs).toArray[q]!) else c[q]?:=λq=>by grind [Td,Go.World.cell?,sorted]
   have d:∀q (W:q<xs.length),cel w' g q=some (.int .i64 ((sorted xs)[q]'(ω))):=ψ
   have J:∀q,fro w' g q=fro w g q:=λq=>by
    refine Prod.ext ?_ ?_
    ·grind [Go.World.frozen?]
    grind [mp,Go.Sort.putCells]
   have hother:∀b,b<w.heap.size->b≠g->∀o,cel w' b o=cel w b o/\fro w' b o=fro w b o:=λb hb K o=>by grind [Go.World.cell?,Go.World.frozen?,mp]
   have D:bw (λb o=>∃i,V i b o) w w':=by
    refine⟨q1,q2,q3,q4,ψ,λb o hb hn=>?_,λb o hb hn=>?_⟩
    all_goals grind
   refine⟨.tuple #[],N,D,NO,Wx (V 0),NO,λ_ _ h=>h.elim,λi b o h=>?_,λ_ _ h=>h.elim,λi i' K b o h h'=>?_,λ_ _ _ h=>h.elim,λ_ _ h=>h.elim,λ_ _ _ _ h=>h.elim,⟨#[],rfl,trivial,rfl⟩,cK.nil _ _ _ _,⟨⟨rfl,λ_=>.slice (some ⟨g,0,none⟩) xs.length B,rfl,row1 ?_⟩,trivial⟩⟩
   ·cases i with
    | zero=>exact .inl ⟨0,h⟩
    | succ i=>exact h.elim
   ·cases i with
    | zero=>
     cases i' with
     | zero=>exact K rfl
     | succ i'=>exact h'.elim
    | succ i=>exact h.elim
   show dK w' _ (V 0) _ _;refine .own _ .own g 1 xs.length B _ (λq=>(cel w' g q).getD undef) (λ_=>NO) trivial ψ (λr hr=>by obtain⟨z,-,rfl⟩:=C6.1 hr;rfl) F G (λq W=>?_) (λq W=>?_) (λ_ _ _ _ h=>h.elim) (λ_ _ _ _ _ _ _ h=>h.elim) (λi j r c2 L l=>?_)
   ·obtain⟨a1,⟨z,a2,a3⟩,a4⟩:=hF q W
    refine⟨a1,?_,(J q).trans a4⟩;by_cases X:q<xs.length
    ·exact⟨_,d q X,rfl⟩
    grind
   ·grind
   rw[S4]at L;have Y:i<(sorted xs).length:=ψ
   rw[I3 Y]at L;simp only[O7,I1]at L;subst L
   match j,l with
   | 0,l=>
    simp only[rI,List.getElem?_cons_zero,I1]at l;subst l;simp only[Nat.mul_one,Nat.add_zero,d i ω,Option.getD_some];exact .v _ _ rfl
   | j+1,l=>simp[rI]at l
  | _=>cases E
set_option maxHeartbeats 8000000
def kQ(s:aA)(k:Nat):Int:=16*s.R+(k:Nat)*csz s.d
def eM(s:aA)(n:Nat):List Int:=((List.range n).filter λk=>aT s.a8 (k:Nat)).map (kQ s)
theorem Fp(h:aT s.a8 (n:Nat)=true):eM s (n+1)=eM s n++[kQ s n]:=by grind [List.range_succ,eM]
theorem FI(h:aT s.a8 (n:Nat)=false):eM s (n+1)=eM s n:=by grind [List.range_succ,eM]
theorem sO(s:aA)(n:Nat):(eM s n).length<=n:=by grind [eM]
def fS(sp:List aA):List Int:=sp.flatMap λs=>eM s (slots s.d).toNat
def live0(sp:List aA)(la:List aB):List Int:=fS sp++la.map λl=>16*l.R
def oN(sp:List aA)(la:List aB):List Int:=sorted (live0 sp la)
theorem tE(k:Int):0<=slots k/\slots k<=16:=by grind [slots]
def AX{k:Int}(h:0<=k/\k<=3):slots k*csz k=16:=by
 obtain rfl|rfl|rfl|rfl:k=0\/k=1\/k=2\/k=3:=ω
 all_goals decide
theorem zJ(h:sp[i]? = some s):fS (sp.take (i+1))=fS (sp.take i)++eM s (slots s.d).toNat:=by grind [Y7,fS]
def re(s:aA)(k:Nat)(a:bh s=true)(i:(k:Int)<slots s.d):zzA 339 false [.val (some 3) (aA.enc .S s),.val none [I (k:Nat)]] .one [I (kQ s k)]:=by
 have b:=gK s;have c:=di s.d;have g:=gh s.d;rw[a]at b;have d:=aK a;have j:=tE s.d;rcases bZ ⟨d.2.2.1,d.2.2.2⟩ with e|e|e|e<;>rw[e]at c
 all_goals
  refine fO 26 [(3,9,[17,18,19,20,21,22,23,24,25])] Tryz.func339 rfl ?_
  repeat'(first|refine gE ?_|(conv=>whnf);first|with_reducible refine Bf.D (λh=>?_) (λh=>?_)|refine CB b ?_|refine CB c ?_|refine CB g ?_|refine CB (aG _ 0 _) ?_)
  all_goals exact C1 (λz=>[I z]) (by unfold kQ;rw[e];omega)
theorem xP(sp:List aA)(la:List aB)(c:fL sp)(d:fG la)(a:bG sp la=true):zzA 238 false [.val none (cw .S sp),.val none (cA .S la)] .one (aJ .own (oN sp la)):=by
 have D:=c.1;have E:=d.1;have B:=ro sp la c d;rw[a]at B;obtain⟨o,F,-⟩:=eB a;refine fP 56 [(383,[1])] [] Tryz.func238 rfl ?_ (.inr (bQ _))
 repeat'(first|refine gP ?_|(conv=>whnf);first|refine CB B ?_)
 (conv=>whnf)
 refine CH (ι:=Nat × List Int) (λi=>[(1,.H .one (cA .S la)),(5,.H .one (aJ .own i.2)),(16,.H .one (cw .S sp)),(17,.H .one [I (sp.length)]),(18,.H .one [I ((i.1:Nat):Int)])]) (λi=>i.1<=sp.length/\i.2=fS (sp.take i.1)/\i.2.length<=16*i.1) (λi=>sp.length - i.1) ((0,[])) ?_ (⟨Z0 _,rfl,Z0 _⟩) λi e=>?_
 ·exact wB
 obtain⟨i,S⟩:=i;obtain⟨e,p,G⟩:=e;simp only at e p G |-;by_cases j:i<sp.length
 ·have n:=ax j
  have g:bh (nth sp i)=true:=Tn o j;have H:=tE (nth sp i).d;have q:=f8 g
  repeat'(first|refine gE ?_|(conv=>whnf);first|with_reducible refine CF (aa n) ?_)
  (conv=>whnf)
  refine CH (ι:=Nat × List Int) (λk=>[(1,.H .one (cA .S la)),(5,.H .one (aJ .own k.2)),(7,.H .box (aA.enc .S (nth sp i))),(8,.H .one [I ((k.1:Nat):Int)]),(16,.H .one (cw .S sp)),(17,.H .one [I (sp.length)]),(18,.H .one [I ((i:Nat):Int)])]) (λk=>k.1<=(slots (nth sp i).d).toNat/\k.2=S++eM (nth sp i) k.1) (λk=>(slots (nth sp i).d).toNat - k.1) ((0,S)) ?_ (⟨Z0 _,by simp[eM]⟩) λk t=>?_
  ·exact wB
  obtain⟨k,S2⟩:=k;obtain⟨t,b⟩:=t;simp only at t b |-;have J:=sO (nth sp i) k;have h:S2.length=S.length+(eM (nth sp i) k).length:=ψ
  by_cases M:k<(slots (nth sp i).d).toNat
  ·have u:=hC (nth sp i).a8 (k:Nat) q.2
   cases K:aT (nth sp i).a8 (k:Nat)<;>rw[K]at u
   ·repeat'(first|refine gE ?_|(conv=>whnf);first|refine CB (gh _) ?_|refine CB u ?_)
    ((conv=>whnf);refine CG (k+1,S2) ⟨(by simp only;omega),(by grind [FI])⟩ (by simp only;omega) ?_;(exact wB))
   repeat'(first|refine gE ?_|(conv=>whnf);first|refine CB (gh _) ?_|refine CB u ?_|refine CB (re (nth sp i) k g ω) ?_|refine CU dU (λr w=>by rw[C2.1 w];rfl) (by simp[bp,fx]) (by simp;omega) (by show _*8<=_;simp;omega) rfl ?_)
   ((conv=>whnf)
    refine CG (k+1,S2++[kQ (nth sp i) k]) ⟨(by simp only;omega),(by grind [Fp])⟩ (by simp only;omega) ?_
    (repeat'(first|exact trivial|rfl|exact CL rfl (CL (C1 (C.s dQ.own) (by simp[rI])) trivial)|refine CL ?_ ?_)))
  obtain rfl:k=(slots (nth sp i).d).toNat:=ω
  repeat'(first|refine gE ?_|(conv=>whnf);first|refine CB (gh _) ?_)
  ((conv=>whnf);refine CG (i+1,S2) ⟨(by simp only;omega),(by grind [zJ]),(by simp only;omega)⟩ (by simp only;omega) ?_;(exact wB))
 obtain rfl:i=sp.length:=ω
 rw[I7]at p
 repeat'(first|refine gE ?_|fail)
 (conv=>whnf)
 refine CH (ι:=Nat × List Int) (λi=>[(5,.H .one (aJ .own i.2)),(40,.H .one (cA .S la)),(41,.H .one [I (la.length)]),(42,.H .one [I ((i.1:Nat):Int)])]) (λi=>i.1<=la.length/\i.2=S++(la.take i.1).map (λl=>16*l.R)) (λi=>la.length - i.1) ((0,S)) ?_ ψ λi e=>?_
 ·exact wB
 obtain⟨i,S2⟩:=i;obtain⟨y,b⟩:=e;simp only at y b |-;have h:S2.length=S.length+i:=ψ
 by_cases j:i<la.length
 ·have n:=ax j
  have L:=BW a n
  repeat'(first|refine gE ?_|(conv=>whnf);first|with_reducible refine CF (aa n) ?_|refine CU dU (λr w=>by rw[C2.1 w];rfl) (by simp[bp,fx]) (by simp;omega) (by show _*8<=_;simp;omega) rfl ?_)
  ((conv=>whnf)
   refine CG (i+1,S2++[16*(nth la i).R]) ⟨(by simp only;omega),(by grind [Y7])⟩ (by simp only;omega) ?_
   (repeat'(first|exact trivial|rfl|exact CL rfl (CL (C1 (C.s dQ.own) (by simp[rI];omega)) trivial)|refine CL ?_ ?_)))
 obtain rfl:i=la.length:=ω
 rw[I7]at b
 repeat'(first|refine gE ?_|(conv=>whnf);first|refine CK (Ud S2 ω) (.inl rfl) ?_)
 show _=aJ .own (sorted (fS sp++la.map λl=>16*l.R));rw[<-p,<-b];rfl
def ru(b:List (Int × Value))(L:List Int):Prop:=∀a,mlook b a (.int .i64 0)=.int .i64 (L.count a:Nat)
theorem MB(c:List (Int × Value))(a b:Int)(v d:Value):mlook (mput c a v) b d=if a=b then v else mlook c b d:=by
 induction c with
 | nil=>grind [mput,mlook]
 | cons p c e=>
  grind [mput,mlook]
def inc(b:List (Int × Value))(L:List Int)(a:Int):List (Int × Value):=mput b a (.int .i64 ((L.count a:Nat)+1))
def MH:ru [] []:=λ_=>rfl
theorem qj{d:List (Int × Value)}{L:List Int}(h:ru d L)(a:Int):ru (inc d L a) (L++[a]):=λb=>by
 unfold inc;rw[MB,S8];by_cases c:a=b
 ·grind
 rw[CC c,h b,List.count_singleton,CC (by simpa using c)];rfl
theorem DS(h:ac)(d:fL h.K)(e:fG h.M)(b:List (Int × Value))(L:List Int)(a c:Int)(g:ru b L)(n:L.length<=1000000000) :
  zzB 236 false [.val none [I a],.val none [I c],.ptr [.m b],.ptr (ac.enc .S h)] [.val none [I a],.val none [I c],.ptr [.m (inc b L a)],.ptr (ac.enc .S h)] .one [B (fK h a c)]:=by
 have k:=lA h.K h.M a d e;obtain⟨i,-⟩:=sj h.K h.M a;have l:L.count a<=L.length:=List.count_le_length;unfold fK;generalize denotes h.K h.M a=w at k i |-;refine fM 41 [] [] [(0,0),(0,0),(0,0),(0,0)] Tryz.func236 rfl (λu q=>?_)
 repeat'(first|refine gP ?_|(conv=>whnf);first|with_reducible (first|refine Bf.D (λj=>?_) (λj=>?_)|refine Bf.E (λj=>?_) (λj=>?_))|refine Ml.mk (g a) ?_|refine Mu.mk (es':=inc b L a) rfl ?_|refine CB k ?_|refine CP (i (by assumption)).1 (aa (ax (i (by assumption)).2)) ?_)
 all_goals
  refine CO rfl ?_ ?_
  ·exact C1 (λz=>[B z]) (ψ)
  exact wB
set_option maxHeartbeats 8000000
def tt(h:ac)(a:aO):Bool:=kP h a&&decide (a.b5<=h.b1)
def nH(h:ac):List Int:=((cJ h++h.a7.a5.map (·.Addr))++aY h.a1)++h.O.map (·.Addr)
def kO(h:ac):Bool:=((h.T.all (ik h)&&h.a7.a5.all (tt h))&&(aY h.a1).all (oh h))&&(oN h.K h.M).all λa=>decide ((nH h).count a=1)
theorem TL(h1:h.T.all (ik h)=false):kO h=false:=by grind [kO]
theorem LS(h1:h.a7.a5.all (tt h)=false):kO h=false:=by grind [kO]
theorem TA(h1:(aY h.a1).all (oh h)=false):kO h=false:=by grind [kO]
theorem Tt(h1:((oN h.K h.M).all λa=>decide ((nH h).count a=1))=false):kO h=false:=by grind [kO]
theorem Nf(h1:sp.length<=1048576)(a:la.length<=1048576):(oN sp la).length<=100000000:=by
 have b:∀(l:List aA),(fS l).length<=16*l.length:=by
  intro l
  induction l with
  | nil=>exact Z0 _
  | cons s l c=>
   have e:fS (s::l)=eM s (slots s.d).toNat++fS l:=by grind [fS]
   have d:=tE s.d
   grind [sO]
 grind [yG,oN,live0]
theorem xO(h:ac)(hs:ac.sml h)(P:bG h.K h.M=true)(G:bU h.a1=true)(Z:∀c∈h.T,bI c=true):zzA 82 false [.val (some 24) (ac.enc .S h)] .one [B (kO h)]:=by
 obtain⟨-,-,p,r,hso,hsc,hsm,hsq,-⟩:=hs;have hlo:h.O.length<=1048576:=hso.1;have hlc:h.T.length<=1048576:=hsc.1;have hlq:h.a7.a5.length<=1048576:=hsq.1;have hfl:=Dv G;have t:kO h=false->[B false]=[B (kO h)]:=λe=>by rw[e]
 refine fP 114 [(236,[0,0,2,2])] [] Tryz.func82 rfl ?_
 repeat'(first|refine gP ?_|fail)
 (conv=>whnf)
 refine CH (ι:=Nat × List (Int × Value) × List Int) (λi=>[(1,.H .box (ac.enc .S h)),(3,.H .box [.m i.2.1]),(4,.fn 236 [3,1]),(22,.H .one (qd .S h.T)),(23,.H .one [I (h.T.length)]),(24,.H .one [I ((i.1:Nat):Int)])]) (λi=>i.1<=h.T.length/\ru i.2.1 i.2.2/\i.2.2=((h.T.take i.1).flatMap λc=>c.a.flatten)/\(h.T.take i.1).all (ik h)=true/\i.2.2.length<=32*i.1) (λi=>h.T.length - i.1) ((0,[],[])) ?_ (⟨Z0 _,MH,rfl,rfl,Z0 _⟩) λi hi=>?_
 ·exact wB
 obtain⟨i,es,L⟩:=i;obtain⟨hi,Q,hL,ai,hb⟩:=hi;simp only at hi Q hL ai hb |-;by_cases li:i<h.T.length
 ·have W:=ax li
  obtain⟨h4,h8⟩:=HU (Z _ (au li))
  repeat'(first|refine gE ?_|(conv=>whnf);first|with_reducible refine CF (aa W) ?_)
  (conv=>whnf)
  refine CH (ι:=Nat × List (Int × Value) × List Int) (λk=>[(1,.H .box (ac.enc .S h)),(3,.H .box [.m k.2.1]),(4,.fn 236 [3,1]),(22,.H .one (qd .S h.T)),(23,.H .one [I (h.T.length)]),(24,.H .one [I ((i:Nat):Int)]),(29,.H .one (kn .S (nth h.T i).a)),(30,.H .one [I ((nth h.T i).a.length)]),(31,.H .one [I ((k.1:Nat):Int)])]) (λk=>k.1<=(nth h.T i).a.length/\ru k.2.1 k.2.2/\k.2.2=L++((nth h.T i).a.take k.1).flatten/\dN k.1 (zh h (nth h.T i))=true/\k.2.2.length<=L.length+8*k.1) (λk=>(nth h.T i).a.length - k.1) ((0,es,L)) ?_ (⟨Z0 _,Q,by simp,rfl,by simp⟩) λk hk=>?_
  ·exact wB
  obtain⟨k,es3,X⟩:=k;obtain⟨hk,F,R,ak,hb3⟩:=hk;simp only at hk F R ak hb3 |-;by_cases lk:k<(nth h.T i).a.length
  ·have hy:=ax lk
   have hl8:=h8 _ (au lk)
   repeat'(first|refine gE ?_|(conv=>whnf);first|with_reducible (first|refine CF (aa W) ?_|refine CF (aa hy) ?_))
   (conv=>whnf)
   refine CH (ι:=Nat × List (Int × Value) × List Int) (λj=>[(1,.H .box (ac.enc .S h)),(3,.H .box [.m j.2.1]),(4,.fn 236 [3,1]),(7,.H .one [I ((k:Nat):Int)]),(22,.H .one (qd .S h.T)),(23,.H .one [I (h.T.length)]),(24,.H .one [I ((i:Nat):Int)]),(29,.H .one (kn .S (nth h.T i).a)),(30,.H .one [I ((nth h.T i).a.length)]),(31,.H .one [I ((k:Nat):Int)]),(36,.H .one (aJ .S (nth (nth h.T i).a k))),(37,.H .one [I ((nth (nth h.T i).a k).length)]),(38,.H .one [I ((j.1:Nat):Int)])]) (λj=>j.1<=(nth (nth h.T i).a k).length/\ru j.2.1 j.2.2/\j.2.2=X++(nth (nth h.T i).a k).take j.1/\((nth (nth h.T i).a k).take j.1).all (λa=>fK h a (k:Nat))=true) (λj=>(nth (nth h.T i).a k).length - j.1) ((0,es3,X)) ?_ ψ λj hj=>?_
   ·exact wB
   obtain⟨j,es4,S⟩:=j;obtain⟨hj,l,T,Y⟩:=hj;simp only at hj l T Y |-;have hl4:S.length=X.length+j:=ψ
   by_cases lj:j<(nth (nth h.T i).a k).length
   ·have d:=ax lj
    have b:=DS h p r es4 S (nth (nth (nth h.T i).a k) j) (k:Nat) l ω;cases o:fK h (nth (nth (nth h.T i).a k) j) (k:Nat)<;>rw[o]at b
    ·repeat'(first|refine gE ?_|(conv=>whnf);first|with_reducible refine CF (aa d) ?_|refine CK (b) (.inl rfl) ?_)
     exact t (TL (mu W (by unfold ik;exact dC lk (mu d o))))
    repeat'(first|refine gE ?_|(conv=>whnf);first|with_reducible refine CF (aa d) ?_|refine CK (b) (.inl rfl) ?_)
    ((conv=>whnf)
     refine CG (j+1,inc es4 S (nth (nth (nth h.T i).a k) j),S++[nth (nth (nth h.T i).a k) j]) ⟨(by simp only;omega),qj l _,(by grind [Y7]),eE d Y o⟩ (by simp only;omega) ?_
     (exact wA))
   obtain rfl:j=(nth (nth h.T i).a k).length:=ω
   rw[I7]at T Y
   repeat'(first|refine gE ?_|fail)
   ((conv=>whnf);refine CG (k+1,es4,S) ⟨(by simp only;omega),l,(by grind [Kj]),cO ak Y,(by simp only;omega)⟩ (by simp only;omega) ?_;(exact wB))
  obtain rfl:k=(nth h.T i).a.length:=ω
  rw[I7]at R
  repeat'(first|refine gE ?_|fail)
  ((conv=>whnf);refine CG (i+1,es3,X) ⟨(by simp only;omega),F,(by grind [HB]),eE W ai ak,(by simp only;omega)⟩ (by simp only;omega) ?_;(exact wB))
 obtain rfl:i=h.T.length:=ω
 rw[I7]at hL ai
 repeat'(first|refine gE ?_|fail)
 (conv=>whnf)
 refine CH (ι:=Nat × List (Int × Value) × List Int) (λq=>[(1,.H .box (ac.enc .S h)),(3,.H .box [.m q.2.1]),(4,.fn 236 [3,1]),(52,.H .one (dX .S h.a7.a5)),(53,.H .one [I (h.a7.a5.length)]),(54,.H .one [I ((q.1:Nat):Int)])]) (λq=>q.1<=h.a7.a5.length/\ru q.2.1 q.2.2/\q.2.2=L++(h.a7.a5.take q.1).map (·.Addr)/\(h.a7.a5.take q.1).all (tt h)=true) (λq=>h.a7.a5.length - q.1) ((0,es,L)) ?_ ψ λq u=>?_
 ·exact wB
 obtain⟨q,es5,H⟩:=q;obtain⟨w,y,E,aq⟩:=u;simp only at w y E aq |-;have hl5:H.length=L.length+q:=ψ
 by_cases U:q<h.a7.a5.length
 ·have d:=ax U
  have b:=DS h p r es5 H (nth h.a7.a5 q).Addr (nth h.a7.a5 q).d y ω;cases o:fK h (nth h.a7.a5 q).Addr (nth h.a7.a5 q).d<;>rw[o]at b
  ·repeat'(first|refine gE ?_|(conv=>whnf);first|with_reducible (first|refine CF (aa d) ?_|refine Bf.D (λu=>?_) (λu=>?_))|refine CK (b) (.inl rfl) ?_)
   all_goals exact t (LS (mu d (by unfold tt kP;rw[o];rfl)))
  repeat'(first|refine gE ?_|(conv=>whnf);first|with_reducible (first|refine CF (aa d) ?_|refine Bf.D (λu=>?_) (λu=>?_))|refine CK (b) (.inl rfl) ?_)
  all_goals first
   |exact t (LS (mu d (by unfold tt kP;rw[o,X0 ω];rfl)))
   | ((conv=>whnf)
      refine CG (q+1,inc es5 H (nth h.a7.a5 q).Addr,H++[(nth h.a7.a5 q).Addr]) ⟨(by simp only;omega),qj y _,(by simp only;rw[E,Y7,d,C8,Z7];rfl),eE d aq (by unfold tt kP;rw[o,O0 ω];rfl)⟩ (by simp only;omega) ?_
      (exact wA))
 obtain rfl:q=h.a7.a5.length:=ω
 rw[I7]at E aq
 repeat'(first|refine gE ?_|(conv=>whnf);first|refine CB (AG h.a1 hsm) ?_)
 (conv=>whnf)
 refine CH (ι:=Nat × List (Int × Value) × List Int) (λq=>[(1,.H .box (ac.enc .S h)),(3,.H .box [.m q.2.1]),(4,.fn 236 [3,1]),(75,.H .one (aJ .own (aY h.a1))),(76,.H .one [I ((aY h.a1).length)]),(77,.H .one [I ((q.1:Nat):Int)])]) (λq=>q.1<=(aY h.a1).length/\ru q.2.1 q.2.2/\q.2.2=H++(aY h.a1).take q.1/\((aY h.a1).take q.1).all (oh h)=true) (λq=>(aY h.a1).length - q.1) ((0,es5,H)) ?_ ψ λq u=>?_
 ·exact wB
 obtain⟨q,es6,J⟩:=q;obtain⟨w,C,K,aq6⟩:=u;simp only at w C K aq6 |-;have hl6:J.length=H.length+q:=ψ
 by_cases U:q<(aY h.a1).length
 ·have d:=ax U
  have b:=DS h p r es6 J (nth (aY h.a1) q) (-1) C ω;cases o:fK h (nth (aY h.a1) q) (-1)<;>rw[o]at b
  ·repeat'(first|refine gE ?_|(conv=>whnf);first|with_reducible refine CF (aa d) ?_|refine CJ rfl (aa d) rfl ?_|refine CK (b) (.inl rfl) ?_)
   exact t (TA (mu d o))
  repeat'(first|refine gE ?_|(conv=>whnf);first|with_reducible refine CF (aa d) ?_|refine CJ rfl (aa d) rfl ?_|refine CK (b) (.inl rfl) ?_)
  ((conv=>whnf)
   refine CG (q+1,inc es6 J (nth (aY h.a1) q),J++[nth (aY h.a1) q]) ⟨(by simp only;omega),qj C _,(by grind [Y7]),eE d aq6 o⟩ (by simp only;omega) ?_
   (exact wA))
 obtain rfl:q=(aY h.a1).length:=ω
 rw[I7]at K aq6
 repeat'(first|refine gE ?_|fail)
 (conv=>whnf)
 refine CH (ι:=Nat × List (Int × Value) × List Int) (λq=>[(1,.H .box (ac.enc .S h)),(3,.H .box [.m q.2.1]),(87,.H .one (ml .S h.O)),(88,.H .one [I (h.O.length)]),(89,.H .one [I ((q.1:Nat):Int)])]) (λq=>q.1<=h.O.length/\ru q.2.1 q.2.2/\q.2.2=J++(h.O.take q.1).map (·.Addr)) (λq=>h.O.length - q.1) ((0,es6,J)) ?_ ψ λq u=>?_
 ·exact wB
 obtain⟨q,es7,M⟩:=q;obtain⟨w,g,O⟩:=u;simp only at w g O |-;have hl7:M.length=J.length+q:=ψ
 by_cases U:q<h.O.length
 ·have d:=ax U
  have hcl:M.count (nth h.O q).Addr<=M.length:=List.count_le_length
  repeat'(first|refine gE ?_|(conv=>whnf);first|with_reducible refine CF (aa d) ?_|refine Ml.mk (g _) ?_|refine Mu.mk (es':=inc es7 M (nth h.O q).Addr) rfl ?_)
  ((conv=>whnf)
   refine CG (q+1,inc es7 M (nth h.O q).Addr,M++[(nth h.O q).Addr]) ⟨(by simp only;omega),qj g _,(by grind [Y7])⟩ (by simp only;omega) ?_
   (exact wA))
 obtain rfl:q=h.O.length:=ω
 rw[I7]at O;have V:M=nH h:=by rw[O,K,E,hL];rfl
 have hlv:=Nf p.1 r.1
 repeat'(first|refine gE ?_|(conv=>whnf);first|refine CB (xP h.K h.M p r P) ?_)
 (conv=>whnf)
 refine CH (ι:=Nat) (λn=>[(3,.H .box [.m es7]),(103,.H .one (aJ .own (oN h.K h.M))),(104,.H .one [I ((oN h.K h.M).length)]),(105,.H .one [I ((n:Nat):Int)])]) (λn=>n<=(oN h.K h.M).length/\((oN h.K h.M).take n).all (λa=>decide ((nH h).count a=1))=true) (λn=>(oN h.K h.M).length - n) (0) ?_ ψ λn hn=>?_
 ·exact wB
 obtain⟨hn,an⟩:=hn;by_cases ln:n<(oN h.K h.M).length
 ·have d:=ax ln
  rw[V]at g
  repeat'(first|refine gE ?_|(conv=>whnf);first|with_reducible (first|refine CF (aa d) ?_|refine Bf.N (λu=>?_) (λu=>?_))|refine CJ rfl (aa d) rfl ?_|refine Ml.mk (g _) ?_)
  all_goals first
   |exact t (Tt (mu d (X0 ω)))
   | ((conv=>whnf);refine CG (n+1) ⟨ω,eE d an (O0 ω)⟩ ω ?_;(exact wB))
 repeat'(first|refine gE ?_|fail)
 exact C1 (λz=>[B z]) ((by grind [kO]))
set_option maxHeartbeats 8000000
def kC(h:ac):Bool:=(((((((aF h.G&&bH (gY h) h.o)&&bG h.K h.M)&&(pages0 h&&pN h))&&gf h)&&h.T.all bI)&&(hP h&&kO h))&&cT h)&&yK h
theorem cr(h:ac)(S:ac.sml h):zzA 23 false [.val (some 24) (ac.enc .S h)] .one [B (kC h)]:=by
 have G:=S;obtain⟨n,o,b,g,H,p,q,J,r⟩:=S;have u:FE h:=n.1.2;have hpn:gY h<=1048576:=u.1;have K:h.O.length<=1048576:=H.1;have L:h.T.length<=1048576:=p.1;have hlb:h.a1.U.length<=1048576:=q.1.1;have hlp:h.Y.W.V.length<=1048576:=r;have d:=mW h.G n;have e:=mS (gY h) h.o ω o;have i:=ro h.K h.M b g;have w:=mD h.a1 q;have M:=pi h.a7 J;cases T:aF h.G<;>rw[T]at d
 ·refine fO 154 [] Tryz.func23 rfl ?_
  repeat'(first|refine gP ?_|(conv=>whnf);first|with_reducible refine Bf.N (λa=>?_) (λa=>?_)|refine CB d ?_)
  all_goals first
   | exact C1 (λz=>[B z]) ((by unfold kC ;rw[T];simp))
   |(exfalso;omega)
 cases U:bH (gY h) h.o<;>rw[U]at e
 ·refine fO 154 [] Tryz.func23 rfl ?_
  repeat'(first|refine gP ?_|(conv=>whnf);first|with_reducible refine Bf.N (λa=>?_) (λa=>?_)|refine CB d ?_|refine CB e ?_)
  all_goals first
   | exact C1 (λz=>[B z]) ((by unfold kC ;rw[U];simp))
   |(exfalso;omega)
 cases F:bG h.K h.M<;>rw[F]at i
 ·refine fO 154 [] Tryz.func23 rfl ?_
  repeat'(first|refine gP ?_|(conv=>whnf);first|with_reducible refine Bf.N (λa=>?_) (λa=>?_)|refine CB d ?_|refine CB e ?_|refine CB i ?_)
  all_goals first
   | exact C1 (λz=>[B z]) ((by unfold kC ;rw[F];simp))
   |(exfalso;omega)
 have j:=Fr h b g u o F;cases V:(pages0 h&&pN h)<;>rw[V]at j
 ·refine fO 154 [] Tryz.func23 rfl ?_
  repeat'(first|refine gP ?_|(conv=>whnf);first|with_reducible refine Bf.N (λa=>?_) (λa=>?_)|refine CB d ?_|refine CB e ?_|refine CB i ?_|refine CB j ?_)
  all_goals first
   | exact C1 (λz=>[B z]) ((by unfold kC ;rw[V];simp))
   |(exfalso;omega)
 cases O:bU h.a1<;>rw[O]at w
 ·refine fO 154 [] Tryz.func23 rfl ?_
  repeat'(first|refine gP ?_|(conv=>whnf);first|with_reducible refine Bf.N (λa=>?_) (λa=>?_)|refine CB d ?_|refine CB e ?_|refine CB i ?_|refine CB j ?_|refine CB w ?_)
  all_goals first
   | exact C1 (λz=>[B z]) ((by unfold kC gf;rw[O];simp))
   |(exfalso;omega)
 by_cases P:h.T.length=h.a1.U.length;rotate_left
 ·refine fO 154 [] Tryz.func23 rfl ?_
  repeat'(first|refine gP ?_|(conv=>whnf);first|with_reducible refine Bf.N (λa=>?_) (λa=>?_)|refine CB d ?_|refine CB e ?_|refine CB i ?_|refine CB j ?_|refine CB w ?_)
  all_goals first
   | exact C1 (λz=>[B z]) ((by unfold kC gf;rw[X0 P];simp))
   |(exfalso;omega)
 cases W:gS h.a7<;>rw[W]at M
 ·refine fO 154 [] Tryz.func23 rfl ?_
  repeat'(first|refine gP ?_|(conv=>whnf);first|with_reducible refine Bf.N (λa=>?_) (λa=>?_)|refine CB d ?_|refine CB e ?_|refine CB i ?_|refine CB j ?_|refine CB w ?_|refine CB M ?_)
  all_goals first
   | exact C1 (λz=>[B z]) ((by unfold kC gf;rw[W];simp))
   |(exfalso;omega)
 have hmc:gf h=true:=by grind [gf]
 refine fO 154 [] Tryz.func23 rfl ?_
 repeat'(first|refine gB ?_|(conv=>whnf);first|with_reducible refine Bf.N (λa=>?_) (λa=>?_)|refine CB d ?_|refine CB e ?_|refine CB i ?_|refine CB j ?_|refine CB w ?_|refine CB M ?_)
 all_goals try(exfalso;omega)
 (conv=>whnf)
 refine CH (ι:=Nat) (λk=>[(1,.H .box (ac.enc .S h)),(57,.H .one (qd .S h.T)),(58,.H .one [I (h.T.length)]),(59,.H .one [I ((k:Nat):Int)])]) (λk=>k<=h.T.length/\(h.T.take k).all bI=true) (λk=>h.T.length - k) (0) ?_ ψ λk X=>?_
 ·exact wB
 obtain⟨X,Y⟩:=X;by_cases Z:k<h.T.length
 ·have Q:=ax Z
  have R:=oG (nth h.T k) (p.2 _ (au Z));cases e8:bI (nth h.T k)<;>rw[e8]at R
  ·repeat'(first|refine gE ?_|(conv=>whnf);first|with_reducible refine CF (aa Q) ?_|refine CB R ?_)
   exact C1 (λz=>[B z]) ((by grind [kC]))
  repeat'(first|refine gE ?_|(conv=>whnf);first|with_reducible refine CF (aa Q) ?_|refine CB R ?_)
  ((conv=>whnf);refine CG (k+1) ⟨ω,eE Q Y e8⟩ ω ?_;(exact wB))
 have hca:h.T.all bI=true:=tN ω Y;have l:=Ht h b g K L;have c10:=xO h G F O ψ;have c12:=yO h.Y r;have c13:=vP h h.Y.W.a3 b.1;have c14:=vP h h.Y.W.a0 b.1;cases e9:hP h<;>rw[e9]at l
 ·repeat'(first|refine gE ?_|(conv=>whnf);first|refine CB l ?_)
  all_goals first
   | exact C1 (λz=>[B z]) ((by unfold kC;rw[e9];simp))
   |(exfalso;omega)
 cases e10:kO h<;>rw[e10]at c10
 ·repeat'(first|refine gE ?_|(conv=>whnf);first|refine CB l ?_|refine CB c10 ?_)
  all_goals first
   | exact C1 (λz=>[B z]) ((by unfold kC;rw[e10];simp))
   |(exfalso;omega)
 by_cases hn:cT h=true;rotate_left
 ·have y:cT h=false:=by simpa using hn
  have c:=y;unfold cT at c;rw[X6]at c
  repeat'(first|refine gE ?_|(conv=>whnf);first|with_reducible refine Bf.D (λa=>?_) (λa=>?_)|refine CB (aG _ _ _) ?_|refine CB (pw _) ?_|refine CB l ?_|refine CB c10 ?_)
  all_goals first
   | exact C1 (λz=>[B z]) ((by unfold kC;rw[y];simp))
   |(exfalso;omega)
 have c:=hn;unfold cT at c;rw[C0]at c;have C:kC h=yK h:=by grind [kC]
 rw[C];unfold yK;cases em:h.k
 ·repeat'(first|refine gE ?_|(conv=>whnf);first|with_reducible (first|refine Bf.D (λa=>?_) (λa=>?_)|refine Bf.E (λa=>?_) (λa=>?_))|refine CB (aG _ _ _) ?_|refine CB (pw _) ?_|refine CB l ?_|refine CB c10 ?_|refine Bf.f em ?_)
  all_goals first
   | exact C1 (λz=>[B z]) ((by unfold xW;simp only[Bool.false_eq_true,if_false];first|(symm;exact X0 ω)|(rw[Y6,beq_iff_eq,C0];omega)))
   |(exfalso;omega)
 cases e12:lu h.Y<;>rw[e12]at c12
 all_goals
  repeat'(first|refine gE ?_|(conv=>whnf);first|with_reducible (first|refine Bf.D (λa=>?_) (λa=>?_)|refine Bf.D (λa=>?_) (λa=>?_))|refine CB (aG _ _ _) ?_|refine CB (pw _) ?_|refine CB l ?_|refine CB c10 ?_|refine CB c12 ?_|refine CB c13 ?_|refine CB c14 ?_|refine Bf.t em ?_)
  all_goals first
   | exact C1 (λz=>[B z]) (ψ)
   |(exfalso;omega)
def cU[Inhabited α]{xs:List α}{f:α->Int}(e:(xs.map f).Nodup)(b:i<xs.length)(c:j<xs.length)(h:f (nth xs i)=f (nth xs j)):i=j:=by
 have d:=List.pairwise_iff_getElem.1 e;rcases Nat.lt_trichotomy i j with a|rfl|a
 ·have:=d i j (by simpa using b) (by simpa using c) a
  simp only[List.getElem_map]at this;rw[bk (I3 b),bk (I3 c)]at h;exact absurd h this
 ·rfl
 have:=d j i (by simpa using c) (by simpa using b) a;simp only[List.getElem_map]at this;rw[bk (I3 b),bk (I3 c)]at h;omega
theorem aN[Inhabited α]{xs:List α}{x:α}(h:x∈xs):∃i,i<xs.length/\nth xs i=x:=by
 obtain⟨i,a⟩:=List.mem_iff_getElem?.1 h
 grind [bk]
theorem r8:∀{H L:List Int},H.Nodup->(∀x∈H,x∈L)->L.length<=H.length->∀x∈L,x∈H
 | [],L,_,_,b,x,c=>by grind
 | y::H,L,d,f,b,x,c=>by
  have g:y∈L:=ψ
  have a:=List.nodup_cons.1 d;by_cases e:x=y
  ·grind
  refine S7 _ (r8 (L:=L.erase y) a.2 (λz h=>?_) ?_ x ψ)
  all_goals grind
theorem Ny{H L:List Int}(b:L.Nodup)(c:∀x∈H,x∈L):(H.Nodup/\H.length=L.length)↔∀a∈L,H.count a=1:=by grind [r8,List.Perm.length_eq]
theorem dB{l:aB} : p∈lpgs l n↔∃k:Nat,k<n/\p=l.R+(k:Nat):=by grind [lpgs]
structure oX(sp:List aA)(la:List aB):Prop where
 sok:∀s∈sp,bh s=true
 lok:∀l∈la,bK l=true
 nd:(sp.map (·.R)).Nodup
 dis:∀s∈sp,∀l∈la,∀k:Nat,k<l.a2.toNat->s.R≠l.R+(k:Nat)
 one:∀i j,i<la.length->j<la.length->∀k k':Nat,k<(nth la i).a2.toNat->k'<(nth la j).a2.toNat->(nth la i).R+(k:Nat)=(nth la j).R+(k':Nat)->i=j
theorem oX.of(h:bG sp la=true):oX sp la:=by
 obtain⟨B,C,d⟩:=eB h;unfold pgs at d;rw[List.nodup_append]at d;obtain⟨q,r,t⟩:=d;have u:=List.pairwise_flatMap.1 r;refine⟨ψ,ψ,q,λs D l w k c e=>?_,λi j f g k o c a e=>?_⟩
 ·exact t _ ψ _ (List.mem_flatMap.2 ⟨l,w,dB.2 ⟨k,c,rfl⟩⟩) e
 have p:=List.pairwise_iff_getElem.1 u.2;have y:=bk (I3 f);have A:=bk (I3 g);rw[y]at c e;rw[A]at a e;rcases Nat.lt_trichotomy i j with b|n|b
 ·exact absurd e (p i j f g b _ (dB.2 ⟨k,c,rfl⟩) _ (dB.2 ⟨o,a,rfl⟩))
 ·exact n
 exact absurd e.symm (p j i g f b _ (dB.2 ⟨o,a,rfl⟩) _ (dB.2 ⟨k,c,rfl⟩))
theorem gG(b:bh s=true):cY s a=true↔16*s.R<=a/\a<=16*s.R+15:=by grind [cY]
theorem iB(b:oX sp la)(c:i<sp.length)(h:16*(nth sp i).R<=a/\a<=16*(nth sp i).R+15):denotes sp la a=o8 i (nth sp i) a:=by
 refine nN c ((gG (b.sok _ (au c))).2 h) λj z l k=>?_
 cases e:cY z a with
 | false=>rfl
 | true=>
  exfalso;have d:=(O3.1 k).1;have n:=(gG (b.sok z ψ)).1 e;have g:=bk k;subst g;have:=cU (f:=(·.R)) b.nd c d ω;omega
theorem Vj(b:oX sp la)(h:∀i,i<sp.length->¬(16*(nth sp i).R<=a/\a<=16*(nth sp i).R+15)):∀(j:Nat)(z:aA),j<sp.length->sp[j]? = some z->cY z a=false:=by grind [gG,oX.sok,bk]
theorem QV(c:oX sp la)(a:Int):a∈live0 sp la↔a∈lZ sp la:=by
 have G:a∈lZ sp la↔∃n:Nat,n<512/\qh sp la n=true/\(n:Int)=a:=by grind [lZ,FB]
 rw[G];unfold live0 fS;rw[I4,List.mem_flatMap,C6];constructor
 ·rintro(⟨s,g,C⟩|⟨l,b,rfl⟩)
  ·obtain⟨i,d,rfl⟩:=aN g
   unfold eM at C;obtain⟨k,H,rfl⟩:=C6.1 C;obtain⟨h,J⟩:=I6.1 H;have h:=List.mem_range.1 h;have o:=aK (c.sok _ g);have t:=AX ⟨o.2.2.1,o.2.2.2⟩;have K:=tE (nth sp i).d;unfold kQ;have L:0<=(k:Int)*csz (nth sp i).d/\(k:Int)*csz (nth sp i).d<=15:=by grind [bZ]
   have f:=iB c d (a:=16*(nth sp i).R+(k:Nat)*csz (nth sp i).d) ω;have O:(16*(nth sp i).R+(k:Nat)*csz (nth sp i).d - 16*(nth sp i).R) / csz (nth sp i).d=(k:Nat)/\(16*(nth sp i).R+(k:Nat)*csz (nth sp i).d - 16*(nth sp i).R) % csz (nth sp i).d=0:=by grind [bZ]
   refine⟨(16*(nth sp i).R+(k:Nat)*csz (nth sp i).d).toNat,ω,?_,ω⟩
   grind [qh,o8]
  obtain⟨i,d,rfl⟩:=aN b;have P:=aR (c.lok _ b);have M:=dn (c.lok _ b);have u:=Vj c (a:=16*(nth la i).R) λj D Q=>c.dis _ (au D) _ b 0 ω ω
  have E:bC (nth la i) (16*(nth la i).R)=true:=by grind [oX.lok,bC]
  have f:=nh (a:=16*(nth la i).R) (O4 _) u d E λj z D r=>by
   cases e:bC z (16*(nth la i).R) with
   | false=>rfl
   | true=>
    exfalso;have w:=(O3.1 r).1;have p:=Z2 r;have y:=bk r;subst y;have N:=aR (c.lok _ p);have q:=c.lok _ p;unfold bK at q;rw[C0]at q;unfold bC at e;rw[I0,C0]at e;have:=c.one i j d w 0 ((nth la i).R - (nth la j).R).toNat ω ω ω;omega
  refine⟨(16*(nth la i).R).toNat,ω,?_,ω⟩
  grind [qh]
 rintro⟨n,R,b,rfl⟩
 cases u:sp.findIdx? (cY · (n:Nat)) with
 | some i=>
  obtain⟨d,A,-⟩:=X9.1 u;have B:=bk (I3 d);rw[<-B]at A;have g:=c.sok _ (au d);have F:=(gG g).1 A;have o:=aK g;have t:=AX ⟨o.2.2.1,o.2.2.2⟩;have f:denotes sp la (n:Nat)=o8 i (nth sp i) (n:Nat):=by grind [denotes]
  rw[xI f]at b;simp only[I0,Y8,C0]at b;simp only[o8]at b;cases E:aT (nth sp i).a8 (((n:Int) - 16*(nth sp i).R) / csz (nth sp i).d) with
  | false=>grind
  | true=>
   have r:((n:Int) - 16*(nth sp i).R) % csz (nth sp i).d=0:=b.1;refine .inl ⟨nth sp i,au d,?_⟩;unfold eM;refine C6.2 ⟨(((n:Int) - 16*(nth sp i).R) / csz (nth sp i).d).toNat,I6.2 ⟨List.mem_range.2 ?_,?_⟩,?_⟩
   all_goals grind [bZ,kQ]
 | none=>
  cases F:la.findIdx? (bC · (n:Nat)) with
  | some i=>
   obtain⟨d,A,-⟩:=X9.1 F;have f:denotes sp la (n:Nat) = ⟨3,i,0,(n:Nat) - 16*(nth la i).R⟩:=by grind [denotes]
   rw[xI f]at b
   grind [au]
  | none=>
   have f:denotes sp la (n:Nat) = ⟨0,0,0,0⟩:=by grind [denotes]
   rw[xI f]at b;simp at b
end Go.Proofs.YtiopgblagimpmaaGreat.Ab
