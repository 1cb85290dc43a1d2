/- When the parts of a heap are valid, as plain functions over its data. No condition. -/
import Derived.Test.YtiopgblagimpmaaGreatKbc
set_option linter.unusedVariables false
set_option linter.defProp false
set_option linter.unusedSimpArgs false
set_option linter.constructorNameAsVariable false
namespace Go.Proofs.YtiopgblagimpmaaGreat.Ab
section
variable{α:Type}{l:List α}{p:α->Bool}{i:Nat}{x:α}
theorem cX(h:l[i]? = some x)(a:(l.take i).all p=true)(b:p x=true):(l.take (i+1)).all p=true:=by grind [I6]
theorem gy(h:l[i]? = some x)(a:p x=false):l.all p=false:=ψ
theorem ow(a:l.length<=i)(b:(l.take i).all p=true):l.all p=true:=by grind [Z7]
end
variable{i:Nat}{α:Type}
theorem wv{β:Type}{a:List α}{b:List β}{x:α}{y:β}(h1:a[i]? = some x)(c:b[i]? = some y):(a.zip b)[i]? = some (x,y):=ψ
def nth[Inhabited α](xs:List α)(i:Nat):α:=xs.getD i default
theorem au[Inhabited α]{xs:List α}(h:i<xs.length):xs[i]? = some (nth xs i):=by grind [nth]
theorem bk[Inhabited α]{xs:List α}{y:α}(h:xs[i]? = some y):nth xs i=y:=by grind [nth]
theorem ar[Inhabited α]{xs:List α}(h:i<xs.length):nth xs i∈xs:=O2 (au h)
def df(n:Nat)(p:Nat->Bool):Bool:=(List.range n).all p
variable{n:Nat}
theorem cy{p:Nat->Bool} : df n p=true↔∀j,j<n->p j=true:=by
 unfold df;simp
theorem bU{p:Nat->Bool}(h:df n p=true)(a:p n=true):df (n+1) p=true:=by grind [cy]
theorem cC{p:Nat->Bool}(a:i<n)(b:p i=false):df n p=false:=by grind [cy]
theorem eZ{p:Nat->Bool}(h:df n p=true)(a:i<n):p i=true:=cy.1 h i a
def iJ(u:Bool)(v:Int):Bool:=decide (0<=v/\v<=999)&&(u || decide (v=0))
def gX(r:List Int)(u:Bool):Bool:=decide (r.length=16)&&r.all (iJ u)
def d3(f:aX):Bool:=decide (1<=f.T.length/\f.T.length<=32)&&(decide (f.a5.length=f.T.length)&&(f.T.zip f.a5).all λq=>gX q.1 q.2)
def iC{f:aX}{r:List Int}{u:Bool}(h1:f.T[i]? = some r)(a:f.a5[i]? = some u)(b:gX r u=false):d3 f=false:=by
 unfold d3;rw[gy (p:=λq=>gX q.1 q.2) (wv h1 a) b];simp
variable{k:Nat}
theorem sW{r:List Int}{u:Bool}{v:Int}(h1:r[k]? = some v)(a:iJ u v=false):gX r u=false:=by grind [gX]
theorem Ee{f:aX}(h:d3 f=true):1<=f.T.length/\f.T.length<=32/\f.a5.length=f.T.length:=by grind [d3]
def kH(a:Int)(e:bm):Bool:=decide (0<=e.e/\e.e<=2/\(e.e=0->e.j=0)/\(e.e≠0->0<=e.j/\e.j<a))
def gt(t:aL)(a:Int):Bool:=df t.K.length (λi=>kH a (nth t.K i))&&decide (1<=t.K.length/\t.K.length<=32)
def Ps(t:aL)(f:Int)(i:Nat):Bool:=decide ((nth t.K i).e≠0/\(nth t.K i).j=f)
def jP(t:aL)(f:Int)(n:Nat):List Int:=((List.range n).filter (Ps t f)).map λ(i:Nat)=>(i:Int)
def pagesOn(t:aL)(f:Int):List Int:=jP t f t.K.length
theorem AJ{t:aL}{f:Int}(h:Ps t f n=true):jP t f (n+1)=jP t f n++[(n:Int)]:=by grind [List.range_succ,jP]
theorem FJ{t:aL}{f:Int}(h:Ps t f n=false):jP t f (n+1)=jP t f n:=by grind [List.range_succ,jP]
theorem tU(t:aL)(f:Int)(n:Nat):(jP t f n).length<=n:=by grind [jP]
def af(t:aL)(p:Int):bm:=if 0<=p/\p<t.K.length then nth t.K p.toNat else⟨0,0⟩
def pu(m:aY)(i:Nat):Bool:=nth m.W.a5 i == decide (0<(pagesOn m.R (i:Int)).length)
def dC(m:aY):Bool:=(d3 m.W&&gt m.R m.W.a5.length)&&df m.W.a5.length (pu m)
def aF(k:ah):Bool:=(df k.a0.length (λi=>decide (0<=nth k.a0 i))&&dC k.F)&&decide (0<=k.Calls/\k.Calls<=100000/\k.a0.length<=40)
def rangeIn(pages:Int)(r:aB):Bool:=decide (1<=r.a8/\r.a8<=pages/\0<=r.At/\r.At<=pages - r.a8)
def gx(pages:Int)(xs:List aB)(i:Nat):Bool:=rangeIn pages (nth xs i)&&decide (i=0\/(nth xs (i - 1)).At+(nth xs (i - 1)).a8<(nth xs i).At)
def bF(pages:Int)(xs:List aB):Bool:=df xs.length (gx pages xs)&&decide (1<=pages/\pages<=32)
def vS(page:Int)(r:aB):Bool:=decide (r.At<=page)&&decide (page<IntKind.i64.wrap (r.At+r.a8))
def lim(k:Int):Int:=if k=0 then 65535 else if k=1 then 255 else if k=2 then 15 else if k=3 then 3 else 0
def slots(k:Int):Int:=if k=0 then 16 else if k=1 then 8 else if k=2 then 4 else if k=3 then 2 else 0
def bi(s:aA):Bool:=decide (0<=s.Q/\s.Q<=31/\0<=s.d/\s.d<=3/\0<=s.a9/\s.a9<=lim s.d)
def eX(n:Int):Int:=if 9<=n/\n<=1000 then(n+15) / 16 else 0
def bN(l:aC):Bool:=decide (9<=l.q/\l.q<=1000/\l.a2=(l.q+15) / 16/\0<=l.Q/\l.Q<=32 - l.a2)
def lpgs(l:aC)(n:Nat):List Int:=(List.range n).map λ(i:Nat)=>l.Q+i
def pgs(sp:List aA)(la:List aC):List Int:=sp.map (·.Q)++la.flatMap λl=>lpgs l l.a2.toNat
def bt(sp:List aA)(la:List aC):Bool:=(sp.all bi&&la.all bN)&&decide (pgs sp la).Nodup
def dd(s:aA)(a:Int):Bool:=bi s&&decide (16*s.Q<=a/\a<=16*s.Q+15)
def aZ(b i:Int):Bool:=decide (0<=b/\0<=i/\i<=15/\b / 2 ^ i.toNat % 2=1)
def bG(l:aC)(a:Int):Bool:=bN l&&decide (16*l.Q<=a/\a<=16*l.Q+l.q - 1)
def csz(k:Int):Int:=if 0<=k/\k<=3 then 2 ^ k.toNat else 0
def jg(s:aA)(a:Int):Int × Int:=if dd s a then((a - 16*s.Q) / csz s.d,(a - 16*s.Q) % csz s.d) else(-1,-1)
def oM(i:Nat)(s:aA)(a:Int):jB:=⟨if aZ s.a9 ((a - 16*s.Q) / csz s.d) then 1 else 2,i,(a - 16*s.Q) / csz s.d,(a - 16*s.Q) % csz s.d⟩
def denotes(sp:List aA)(la:List aC)(a:Int):jB:=
 match sp.findIdx? (dd · a) with
 | some i=>oM i (nth sp i) a
 | none=>match la.findIdx? (bG · a) with
  | some i=>⟨3,i,0,a - 16*(nth la i).Q⟩
  | none=>⟨0,0,0,0⟩
theorem w8{pr:α->Bool}{xs:List α}{y:α}(a:xs[i]? = some y)(b:pr y=true)(c:∀(j:Nat)(z:α),j<i->xs[j]? = some z->pr z=false):xs.findIdx? pr=some i:=by grind [Y7]
theorem BN{pr:α->Bool}{xs:List α}(a:xs.length<=i)(b:∀(j:Nat)(z:α),j<i->xs[j]? = some z->pr z=false):xs.findIdx? pr=none:=
 List.findIdx?_eq_none_iff.2 λz c=>by grind [List.mem_iff_getElem?]
theorem dY{pr:α->Bool}{xs:List α}{y:α}(a:xs[i]? = some y)(b:pr y=false)(c:∀(j:Nat)(z:α),j<i->xs[j]? = some z->pr z=false):∀(j:Nat)(z:α),j<i+1->xs[j]? = some z->pr z=false:=ψ
def cU(pr:α->Bool)(xs:List α):Int:=match xs.findIdx? pr with|some i=>(i:Nat)|none=>-1
theorem dD{pr:α->Bool}{xs:List α}{y:α}(a:xs[i]? = some y)(b:pr y=true)(c:∀(j:Nat)(z:α),j<i->xs[j]? = some z->pr z=false):cU pr xs=(i:Nat):=by
 unfold cU;rw[w8 a b c]
theorem gh{pr:α->Bool}{xs:List α}(a:xs.length<=i)(b:∀(j:Nat)(z:α),j<i->xs[j]? = some z->pr z=false):cU pr xs = -1:=by grind [BN,cU]
theorem mT(pr:α->Bool)(xs:List α):decide (cU pr xs≥0)=xs.any pr:=by grind [cU]
def meshable(s t:aA):Bool:=(bi s&&bi t)&&decide (s.d=t.d/\s.Q≠t.Q/\s.a9.toNat &&& t.a9.toNat=0)
def oq(n:Int)(p:dx):Bool:=decide (0<=p.To/\p.To<=n - 1/\0<=p.Addr)
def Qu(z:Int):Bool:=decide (0<=z)
def gU(m:aM)(i:Nat):Bool:=(nth m.U i).all (oq m.U.length)&&(nth m.y i).all Qu
def bC(m:aM):Nat->Int
 | 0=>0
 | i+1=>bC m i+((nth m.U i).length+(nth m.y i).length)
def bR(m:aM):Bool:=(decide (1<=m.U.length/\m.U.length<=4/\m.y.length=m.U.length)&&df m.U.length (gU m))&&decide (bC m m.U.length<=30)
def aQ(m:aM):List Int:=if bR m then(m.U.flatMap λl=>l.map (·.Addr))++m.y.flatten else []
def eQ(a:Int)(y:aR):Bool:=decide (y.Addr=a)
def kL(xs:List aR)(i:Nat):Bool:=decide (0<=(nth xs i).d/\(nth xs i).d<=3/\0<=(nth xs i).Addr/\0<=(nth xs i).b6/\(i=0\/(nth xs (i - 1)).b6<=(nth xs i).b6))&&!(xs.take i).any (eQ (nth xs i).Addr)
def quarCells(xs:List aR):Nat->Int
 | 0=>0
 | i+1=>quarCells xs i+csz (nth xs i).d
def gq(q:bQ):Bool:=df q.a6.length (kL q.a6)&&decide (0<=q.b7/\q.b7<=500/\quarCells q.a6 q.a6.length<=q.b7)
def mF(xs:List Int)(i:Nat):Bool:=decide (0<=nth xs i/\nth xs i<=15/\(i=0\/nth xs (i - 1)<nth xs i))
def eR(p:cA):Bool:=df p.T.length (mF p.T)&&decide (0<=p.a3/\p.a3<=31/\0<=p.a1/\p.a1<=31/\p.a3≠p.a1)
def jR(j:cJ):Bool:=eR j.X&&decide (0<=j.b0/\j.b0<=5/\0<=j.b/\j.b<=j.X.T.length)
def sR(j:cJ):Bool:=decide (j.X.a3=0/\j.X.a1=0/\j.X.T.length=0/\j.b0=0/\j.b=0)
def aT(h:ac)(p:Int):List Int:=if(af h.G.F.R p).e=0 then [] else pagesOn h.G.F.R (af h.G.F.R p).j
def mt(p:Int)(s:aA):Bool:=decide (s.Q=p)
def gL(h:ac)(p:Int):Int:=cU (mt p) h.J
def aK(n:Int):Int:=if n<1 then -1 else if n<=1 then 0 else if n<=2 then 1 else if n<=4 then 2 else if n<=8 then 3 else -1
open Go.RowKit
set_option maxRecDepth 20000
set_option maxHeartbeats 2000000
def aJ(n lo a:Int):zzA 110 false [.val none [I n],.val none [I lo],.val none [I a]] .one [B (decide (lo<=n/\n<=a))]:=by
 refine fO 15 [] Tryz.func110 rfl ?_
 repeat'(first|refine gP ?_|(conv=>whnf);first|with_reducible refine Bf.D (λb=>?_) (λb=>?_))
 all_goals exact Z0 (λz=>[B z]) (by simp;try omega)
def aN(n lo a:Int):zzA 63 false [.val none [I n],.val none [I lo],.val none [I a]] .one [B (decide (lo<=n/\n<=a))]:=by
 refine fO 15 [] Tryz.func63 rfl ?_
 repeat'(first|refine gP ?_|(conv=>whnf);first|with_reducible refine Bf.D (λb=>?_) (λb=>?_))
 all_goals exact Z0 (λz=>[B z]) (by simp;try omega)
def fA(k:Int):zzA 232 false [.val none [I k]] .one [B (decide (0<=k/\k<=3))]:=by
 refine fO 5 [] Tryz.func232 rfl ?_
 repeat'(first|refine gP ?_|(conv=>whnf);first|refine C9 (aN k 0 3) ?_)
 rfl
theorem fI(k:Int):zzA 106 false [.val none [I k]] .one [I (csz k)]:=by
 by_cases b:0<=k/\k<=3
 ·obtain rfl|rfl|rfl|rfl:k=0\/k=1\/k=2\/k=3:=ω
  all_goals
   refine fO 8 [] Tryz.func106 rfl ?_
   repeat'(first|refine gE ?_|(conv=>whnf);first|with_reducible refine Bf.D (λa=>?_) (λa=>?_)|refine C9 (fA _) ?_|refine CP (by decide) ?_|refine CN rfl ?_)
   exact Z0 (λz=>[I z]) (by decide)
 refine fO 8 [] Tryz.func106 rfl ?_
 repeat'(first|refine gE ?_|(conv=>whnf);first|with_reducible refine Bf.D (λa=>?_) (λa=>?_)|refine C9 (fA _) ?_)
 exact Z0 (λz=>[I z]) (by grind [csz])
theorem ee(k:Int):zzA 361 false [.val none [I k]] .one [I (csz k)]:=by
 by_cases b:0<=k/\k<=3
 ·obtain rfl|rfl|rfl|rfl:k=0\/k=1\/k=2\/k=3:=ω
  all_goals
   refine fO 9 [] Tryz.func361 rfl ?_
   repeat'(first|refine gE ?_|(conv=>whnf);first|with_reducible refine Bf.D (λa=>?_) (λa=>?_)|refine C9 (aJ _ 0 3) ?_|refine CP (by decide) ?_|refine CN rfl ?_)
   exact Z0 (λz=>[I z]) (by decide)
 refine fO 9 [] Tryz.func361 rfl ?_
 repeat'(first|refine gE ?_|(conv=>whnf);first|with_reducible refine Bf.D (λa=>?_) (λa=>?_)|refine C9 (aJ _ 0 3) ?_)
 exact Z0 (λz=>[I z]) (by grind [csz])
theorem mW(xs:List Int)(a:Int)(h:xs.length<=9223372036854775807):zzA 353 false [.val none (aH .V xs),.val none [I a]] .one [B (decide (a∈xs))]:=by
 refine fO 18 [] Tryz.func353 rfl ?_
 repeat'(first|refine gP ?_|fail)
 (conv=>whnf)
 refine CJ (ι:=Nat) (λi=>[(0,.H .one (aH .V xs)),(1,.H .one [I a]),(5,.H .one [I (i:Nat)])]) (λi=>i<=xs.length/\a∉xs.take i) (λi=>xs.length - i) 0 ?_ ψ λi c=>?_
 ·exact wB
 obtain⟨c,d⟩:=c;by_cases b:i<xs.length
 ·obtain⟨y,e⟩ : ∃y,xs[i]? = some y:=⟨_,X2 b⟩
  repeat'(first|refine gE ?_|(conv=>whnf);first|with_reducible (first|refine CE (aa e) ?_|refine Bf.E (λg=>?_) (λg=>?_)))
  ·exact Z0 (λz=>[B z]) ψ
  (conv=>whnf)
  refine CF (i+1) ⟨ω,?_⟩ ω ?_
  ·grind [I6]
  exact wB
 repeat'(first|refine gE ?_|fail)
 rw[Z7 ω]at d;exact Z0 (λz=>[B z]) ψ
set_option maxHeartbeats 4000000
def good(k:Int)(s:List Int)(a:Int):Prop:=0<=a/\a<=511/\a.tmod (csz k)=0/\a∉s
instance (k:Int) (s:List Int) (a:Int):Decidable (good k s a):=by unfold good;exact inferInstance
def se(k:Int):List Int->List Int->Option (List Int)
 | s,[]=>some s
 | s,a::l=>if good k s a then se k (s++[a]) l else none
def f7(k:Nat)(s l:List Int):Option (List Int):=if l.length<=8/\k<=3 then se k s l else none
def gC:Nat->List Int->List (List Int)->Option (List Int)
 | _,s,[]=>some s
 | k,s,l::ls=>(f7 k s l).bind λa=>gC (k+1) a ls
def b9(c:aE):Bool:=decide (c.a.length=4)&&(gC 0 [] c.a).isSome
theorem rN(k:Int):∀(a s b:List Int),se k s (a++b)=(se k s a).bind λc=>se k c b
 | [],s,b=>rfl
 | x::a,s,b=>by
  simp only[List.cons_append,se];split
  ·exact rN k a _ b
  rfl
theorem pm:∀(a:List (List Int))(k:Nat)(s:List Int)(b:List (List Int)),gC k s (a++b)=(gC k s a).bind λc=>gC (k+a.length) c b
 | [],k,s,b=>rfl
 | l::a,k,s,b=>by
  simp only[List.cons_append,gC,Option.bind_assoc,List.length_cons]
  congr 1;funext c
  rw[pm a (k+1) c b,show k+1+a.length=k+(a.length+1) by omega]
variable{a:Int}{l:List Int}
theorem Ko{k:Int}{b s:List Int}{j:Nat}(c:l[j]? = some a)(h:se k b (l.take j)=some s)(d:good k s a):se k b (l.take (j+1))=some (s++[a]):=by grind [I6,rN,se]
theorem MR{b s:List Int}{j:Nat}(c:l[j]? = some a)(h:se k b (l.take j)=some s)(d:¬good k s a):f7 k b l=none:=by
 unfold f7;split
 all_goals grind [List.drop_eq_getElem_cons,List.take_append_drop,rN,se]
theorem Df{k:Int} : ∀{l s b:List Int},se k s l=some b->b.length=s.length+l.length
 | [],s,b,h=>by grind [se]
 | a::l,s,b,h=>by
  simp only[se]at h;split at h
  ·have:=Df h;grind
  cases h
theorem uA{a:List (List Int)}{s:List Int}(b:a[i]? = some l)(h:gC 0 [] (a.take i)=some s):gC 0 [] (a.take (i+1))=f7 i s l:=by
 have c:=(Z2.1 b).1;rw[I6,b,Option.toList_some,pm,h];simp only[Option.bind_some,gC,X7,C2,Nat.min_eq_left (Nat.le_of_lt c)]
 grind
variable{c:aE}
theorem ll{s:List Int}(a:c.a[i]? = some l)(h:gC 0 [] (c.a.take i)=some s)(b:f7 i s l=none):b9 c=false:=by
 have d:=uA a h
 grind [List.take_append_drop,pm,b9]
theorem Ge:∀{b:List (List Int)}{k:Nat}{s a:List Int},gC k s b=some a->a.length<=s.length+8*b.length
 | [],k,s,a,h=>by grind [gC]
 | l::b,k,s,a,h=>by
  simp only[gC]at h;unfold f7 at h;split at h
  ·cases c:se k s l with
   | none=>grind
   | some d=>
    rw[c]at h;have e:=Df c;have f:=Ge (show gC (k+1) d b=some a from h)
    grind
  cases h
def Pb(h:i<=3):csz (i:Int)≠0:=by
 obtain rfl|rfl|rfl|rfl:i=0\/i=1\/i=2\/i=3:=ω
 all_goals decide
def cB : ∀r∈l.map (rI .own),r.length=1:=by
 intro r a;obtain⟨z,-,rfl⟩:=Y4.1 a;rfl
theorem nK(c:aE)(t:aE.sml c):zzA 214 false [.val (some 1) (aE.enc .V c)] .one [B (b9 c)]:=by
 have G:=t.1;refine fO 60 [] Tryz.func214 rfl ?_
 repeat'(first|refine gP ?_|(conv=>whnf);first|with_reducible refine Bf.N (λe=>?_) (λe=>?_))
 ·exact Z0 (λz=>[B z]) (by grind [b9])
 have H:c.a.length=4:=ω
 (conv=>whnf)
 refine CJ (ι:=Nat × List Int) (λi=>[(1,.H .box (aE.enc .V c)),(3,.H .one (aH .own i.2)),(4,.H .one [I (i.1:Nat)])]) (λi=>i.1<=4/\gC 0 [] (c.a.take i.1)=some i.2) (λi=>4 - i.1) (0,[]) ?_ ⟨X0 _,rfl⟩ λi k=>?_
 ·exact wB
 obtain⟨i,s⟩:=i;obtain⟨k,b⟩:=k;simp only at k b |-;have g:=Ge b;rw[C2]at g;simp only[List.length_nil]at g;by_cases u:i<4
 ·obtain⟨l,d⟩ : ∃l,c.a[i]? = some l:=(ψ)
  have w:l.length<=1048576:=t.2 l ψ
  repeat'(first|refine gE ?_|(conv=>whnf);first|with_reducible (first|refine CE (aa d) ?_|refine Bf.D (λe=>?_) (λe=>?_)))
  ·exact Z0 (λz=>[B z]) (ll d b (by grind [f7])).symm
  have E:l.length<=8:=ω
  (conv=>whnf)
  refine CJ (ι:=Nat × List Int) (λj=>[(1,.H .box (aE.enc .V c)),(3,.H .one (aH .own j.2)),(4,.H .one [I (i:Nat)]),(5,.H .one [I (j.1:Nat)])]) (λj=>j.1<=l.length/\se i s (l.take j.1)=some j.2) (λj=>l.length - j.1) (0,s) ?_ ⟨X0 _,rfl⟩ λj n=>?_
  ·exact wB
  obtain⟨j,o⟩:=j;obtain⟨n,a⟩:=n;simp only at n a |-;have h:=Df a;rw[C2]at h;by_cases p:j<l.length
  ·obtain⟨y,q⟩ : ∃y,l[j]? = some y:=⟨_,X2 p⟩
   repeat'(first|refine gE ?_|(conv=>whnf);first|with_reducible (first|refine CE (aa d) ?_|refine CE (aa q) ?_|refine Bf.D (λe=>?_) (λe=>?_)|refine Bf.N (λe=>?_) (λe=>?_))|refine C9 (aJ y 0 511) ?_|refine C9 (ee (i:Nat)) ?_|refine CP (Pb ω) ?_|refine CT rfl ?_|refine CK (mW o y ω) ⟨⟨rfl,dA _⟩,⟨rfl,rfl⟩,trivial⟩ ?_|refine CV cB (λr F=>by rw[V1.1 F];rfl) (by simp[bj,ed]) (by simp;omega) (by simp only[I1];exact zh (by simp;omega) (by decide)) rfl ?_)
   all_goals first
    | exact Z0 (λz=>[B z]) (ll d b (MR q a λ⟨J,K,L,M⟩=>by first|contradiction|omega)).symm
    | ((conv=>whnf)
       refine CF (j+1,o++[y]) ⟨(by simp only;omega),Ko q a ⟨ω,ω,(by assumption),(by assumption)⟩⟩ (by simp only;omega) ?_
       (repeat'(first|exact trivial|rfl|exact CM rfl (CM (Z0 (C.s dR.own) (by simp[rI])) trivial)|refine CM ?_ ?_)))
  repeat'(first|refine gE ?_|(conv=>whnf);first|with_reducible refine CE (aa d) ?_)
  (conv=>whnf)
  rw[Z7 ω]at a;refine CF (i+1,o) ⟨(by simp only;omega),(by rw[uA d b];grind [f7])⟩ (by simp only;omega) ?_;exact wB
 repeat'(first|refine gE ?_|fail)
 rw[Z7 ω]at b;exact Z0 (λz=>[B z]) (by grind [b9])
def fT(s:List Int):List (Int × Value):=s.map λa=>(a,.bool true)
theorem nv(a:Int):∀(s:List Int),mlook (fT s) a (.bool false)=.bool (decide (a∈s))
 | []=>by simp[fT,mlook]
 | x::s=>by
  have b:=nv a s
  grind [fT,mlook]
theorem uG{a:Int} : ∀{s:List Int},a∉s->fT (s++[a])=mput (fT s) a (.bool true)
 | [],_=>rfl
 | x::s,h=>by
  simp only[List.mem_cons,not_or]at h;have b:=uG h.2
  grind [fT,mput]
theorem tG(c:aE)(p:aE.sml c):zzA 80 false [.val (some 1) (aE.enc .V c)] .one [B (b9 c)]:=by
 have w:=p.1;refine fO 54 [] Tryz.func80 rfl ?_
 repeat'(first|refine gP ?_|fail)
 (conv=>whnf)
 refine CJ (ι:=Nat × List Int) (λi=>[(1,.H .box (aE.enc .V c)),(3,.H .one [.m (fT i.2)]),(10,.H .one (jE .V c.a)),(11,.H .one [I c.a.length]),(12,.H .one [I (i.1:Nat)])]) (λi=>i.1<=c.a.length/\gC 0 [] (c.a.take i.1)=some i.2) (λi=>c.a.length - i.1) (0,[]) ?_ ⟨X0 _,rfl⟩ λi g=>?_
 ·exact wB
 obtain⟨i,s⟩:=i;obtain⟨g,d⟩:=g;simp only at g d |-;by_cases q:i<c.a.length
 ·obtain⟨l,b⟩ : ∃l,c.a[i]? = some l:=(ψ)
  have r:l.length<=1048576:=p.2 l ψ
  repeat'(first|refine gE ?_|(conv=>whnf);first|with_reducible (first|refine CE (aa b) ?_|refine Bf.D (λe=>?_) (λe=>?_))|refine C9 (fA (i:Nat)) ?_)
  ·exact Z0 (λz=>[B z]) (ll b d (by grind [f7])).symm
  rotate_left
  ·exact Z0 (λz=>[B z]) (ll b d (by grind [f7])).symm
  have t:l.length<=8:=ω
  have u:i<=3:=ω
  (conv=>whnf)
  refine CJ (ι:=Nat × List Int) (λj=>[(1,.H .box (aE.enc .V c)),(3,.H .one [.m (fT j.2)]),(4,.H .one [I (i:Nat)]),(10,.H .one (jE .V c.a)),(11,.H .one [I c.a.length]),(12,.H .one [I (i:Nat)]),(25,.H .one (aH .V l)),(26,.H .one [I l.length]),(27,.H .one [I (j.1:Nat)])]) (λj=>j.1<=l.length/\se i s (l.take j.1)=some j.2) (λj=>l.length - j.1) (0,s) ?_ ⟨X0 _,rfl⟩ λj h=>?_
  ·exact wB
  obtain⟨j,k⟩:=j;obtain⟨h,a⟩:=h;simp only at h a |-;by_cases n:j<l.length
  ·obtain⟨y,o⟩ : ∃y,l[j]? = some y:=⟨_,X2 n⟩
   repeat'(first|refine gE ?_|(conv=>whnf);first|with_reducible (first|refine CE (aa b) ?_|refine CE (aa o) ?_|refine Bf.D (λe=>?_) (λe=>?_)|refine Bf.N (λe=>?_) (λe=>?_))|refine C9 (aN y 0 511) ?_|refine C9 (fI (i:Nat)) ?_|refine CP (Pb ω) ?_|refine CT rfl ?_|refine Ml.mk (nv y k) ?_|refine Mu.mk (uG (by assumption)) ?_)
   all_goals first
    | exact Z0 (λz=>[B z]) (ll b d (MR o a λ⟨C,E,F,G⟩=>by first|contradiction|omega)).symm
    | ((conv=>whnf)
       refine CF (j+1,k++[y]) ⟨(by simp only;omega),Ko o a ⟨ω,ω,(by assumption),(by assumption)⟩⟩ (by simp only;omega) ?_
       (exact wA))
  repeat'(first|refine gE ?_|fail)
  (conv=>whnf)
  rw[Z7 ω]at a;refine CF (i+1,k) ⟨(by simp only;omega),(by rw[uA b d];grind [f7])⟩ (by simp only;omega) ?_;exact wB
 repeat'(first|refine gE ?_|fail)
 grind [W0,b9]
theorem JE:∀{b:List (List Int)}{k:Nat}{s c:List Int},gC k s b=some c->∀l∈b,l.length<=8
 | [],k,s,c,h,l,a=>by simp at a
 | x::b,k,s,c,h,l,a=>by
  simp only[gC]at h;unfold f7 at h;split at h
  ·rename_i d
   rcases List.mem_cons.1 a with rfl|a
   ·exact d.1
   cases e:se k s x with
   | none=>grind
   | some f=>rw[e]at h;exact JE (show gC (k+1) f b=some c from h) l a
  cases h
theorem vL(h:b9 c=true):c.a.length=4/\∀l∈c.a,l.length<=8:=by grind [Option.isSome_iff_exists,JE,b9]
theorem zA(f:aX)(h:aX.sml f):zzA 86 false [.val (some 2) (aX.enc .V f)] .one [B (d3 f)]:=by
 have C:=h.1.1;have E:f.a5.length<=1048576:=h.2;refine fO 61 [] Tryz.func86 rfl ?_
 repeat'(first|refine gP ?_|(conv=>whnf);first|with_reducible (first|refine Bf.D (λa=>?_) (λa=>?_)|refine Bf.N (λa=>?_) (λa=>?_))|refine C9 (aJ f.T.length 1 32) ?_)
 ·exact Z0 (λz=>[B z]) (by grind [d3])
 rotate_left
 ·exact Z0 (λz=>[B z]) (by grind [d3])
 have t:1<=f.T.length/\f.T.length<=32:=ω
 have w:f.a5.length=f.T.length:=ω
 (conv=>whnf)
 refine CJ (ι:=Nat) (λi=>[(1,.H .box (aX.enc .V f)),(3,.H .one [I (i:Nat)])]) (λi=>i<=f.T.length/\((f.T.zip f.a5).take i).all (λq=>gX q.1 q.2)=true) (λi=>f.T.length - i) 0 ?_ ψ λi j=>?_
 ·exact wB
 obtain⟨j,y⟩:=j;by_cases g:i<f.T.length
 ·obtain⟨r,c⟩ : ∃r,f.T[i]? = some r:=⟨_,X2 g⟩
  obtain⟨u,b⟩ : ∃u,f.a5[i]? = some u:=⟨_,X2 ω⟩
  repeat'(first|refine gE ?_|(conv=>whnf);first|with_reducible (first|refine CE (aa c) ?_|refine Bf.N (λa=>?_) (λa=>?_)))
  ·exact Z0 (λz=>[B z]) (iC c b (by grind [gX])).symm
  have l:r.length=16:=ω
  (conv=>whnf)
  refine CJ (ι:=Nat) (λk=>[(1,.H .box (aX.enc .V f)),(3,.H .one [I (i:Nat)]),(4,.H .one [I (k:Nat)])]) (λk=>k<=16/\(r.take k).all (iJ u)=true) (λk=>16 - k) 0 ?_ ψ λk n=>?_
  ·exact wB
  obtain⟨n,e⟩:=n;by_cases o:k<16
  ·obtain⟨v,d⟩ : ∃v,r[k]? = some v:=⟨_,X2 ω⟩
   cases u with
   | true=>
    repeat'(first|refine gE ?_|(conv=>whnf);first|with_reducible (first|refine CE (aa c) ?_|refine CE (aa b) ?_|refine CE (aa d) ?_|refine Bf.D (λa=>?_) (λa=>?_)|refine Bf.N (λa=>?_) (λa=>?_))|refine C9 (aJ v 0 999) ?_)
    all_goals first
     | exact Z0 (λz=>[B z]) (iC c b (sW d (by first|(unfold iJ;rw[W0 ω];rfl)|(unfold iJ;rw[W0 (p:=v=0) ω];simp)))).symm
     | ((conv=>whnf)
        refine CF (ι:=Nat) (k+1) ⟨ω,cX d e (by unfold iJ;first|(rw[O0 ω];rfl)|(rw[O0 (p:=0<=v/\v<=999) ω,O0 (p:=v=0) ω];rfl))⟩ ω ?_
        (exact wA))
   | false=>
    repeat'(first|refine gE ?_|(conv=>whnf);first|with_reducible (first|refine CE (aa c) ?_|refine CE (aa b) ?_|refine CE (aa d) ?_|refine Bf.D (λa=>?_) (λa=>?_)|refine Bf.N (λa=>?_) (λa=>?_))|refine C9 (aJ v 0 999) ?_)
    all_goals first
     | exact Z0 (λz=>[B z]) (iC c b (sW d (by first|(unfold iJ;rw[W0 ω];rfl)|(unfold iJ;rw[W0 (p:=v=0) ω];simp)))).symm
     | ((conv=>whnf)
        refine CF (ι:=Nat) (k+1) ⟨ω,cX d e (by unfold iJ;first|(rw[O0 ω];rfl)|(rw[O0 (p:=0<=v/\v<=999) ω,O0 (p:=v=0) ω];rfl))⟩ ω ?_
        (exact wA))
  repeat'(first|refine gE ?_|fail)
  (conv=>whnf)
  refine CF (i+1) ⟨ω,cX (wv c b) y (by grind [gX])⟩ ω ?_;exact wB
 repeat'(first|refine gE ?_|fail)
 exact Z0 (λz=>[B z]) (by grind [List.length_zip,d3])
theorem qS(f:aX)(g:aX.sml f):zzA 242 false [.val (some 2) (aX.enc .V f)] .one [B (d3 f)]:=by
 have C:=g.1.1;have E:f.a5.length<=1048576:=g.2;refine fO 55 [] Tryz.func242 rfl ?_
 repeat'(first|refine gP ?_|(conv=>whnf);first|with_reducible (first|refine Bf.D (λa=>?_) (λa=>?_)|refine Bf.N (λa=>?_) (λa=>?_))|refine C9 (aN f.T.length 1 32) ?_)
 ·exact Z0 (λz=>[B z]) (by grind [d3])
 rotate_left
 ·exact Z0 (λz=>[B z]) (by grind [d3])
 have p:1<=f.T.length/\f.T.length<=32:=ω
 have t:f.a5.length=f.T.length:=ω
 (conv=>whnf)
 refine CJ (ι:=Nat) (λi=>[(1,.H .box (aX.enc .V f)),(22,.H .one (jE .V f.T)),(23,.H .one [I (f.T.length)]),(24,.H .one [I ((i:Nat):Int)])]) (λi=>i<=f.T.length/\((f.T.zip f.a5).take i).all (λq=>gX q.1 q.2)=true) (λi=>f.T.length - i) (0) ?_ ψ λi j=>?_
 ·exact wB
 obtain⟨j,w⟩:=j;by_cases h:i<f.T.length
 ·obtain⟨r,c⟩ : ∃r,f.T[i]? = some r:=⟨_,X2 h⟩
  obtain⟨u,b⟩ : ∃u,f.a5[i]? = some u:=⟨_,X2 ω⟩
  have y:r.length<=1048576:=g.1.2 r ψ
  repeat'(first|refine gE ?_|(conv=>whnf);first|with_reducible (first|refine CE (aa c) ?_|refine Bf.N (λa=>?_) (λa=>?_)))
  ·exact Z0 (λz=>[B z]) (iC c b (by grind [gX])).symm
  have l:r.length=16:=ω
  (conv=>whnf)
  refine CJ (ι:=Nat) (λk=>[(1,.H .box (aX.enc .V f)),(3,.H .one [I ((i:Nat):Int)]),(22,.H .one (jE .V f.T)),(23,.H .one [I (f.T.length)]),(24,.H .one [I ((i:Nat):Int)]),(32,.H .one (aH .V r)),(33,.H .one [I (r.length)]),(34,.H .one [I ((k:Nat):Int)])]) (λk=>k<=r.length/\(r.take k).all (iJ u)=true) (λk=>r.length - k) (0) ?_ ψ λk n=>?_
  ·exact wB
  obtain⟨n,e⟩:=n;by_cases o:k<r.length
  ·obtain⟨v,d⟩ : ∃v,r[k]? = some v:=⟨_,X2 ω⟩
   cases u with
   | true=>
    repeat'(first|refine gE ?_|(conv=>whnf);first|with_reducible (first|refine CE (aa c) ?_|refine CE (aa b) ?_|refine CE (aa d) ?_|refine Bf.D (λa=>?_) (λa=>?_)|refine Bf.N (λa=>?_) (λa=>?_))|refine C9 (aN v 0 999) ?_)
    all_goals first
     | exact Z0 (λz=>[B z]) (iC c b (sW d (by unfold iJ;grind))).symm
     | ((conv=>whnf)
        refine CF (ι:=Nat) (k+1) ⟨ω,cX d e (by unfold iJ;grind)⟩ ω ?_
        (exact wA))
   | false=>
    repeat'(first|refine gE ?_|(conv=>whnf);first|with_reducible (first|refine CE (aa c) ?_|refine CE (aa b) ?_|refine CE (aa d) ?_|refine Bf.D (λa=>?_) (λa=>?_)|refine Bf.N (λa=>?_) (λa=>?_))|refine C9 (aN v 0 999) ?_)
    all_goals first
     | exact Z0 (λz=>[B z]) (iC c b (sW d (by unfold iJ;grind))).symm
     | ((conv=>whnf)
        refine CF (ι:=Nat) (k+1) ⟨ω,cX d e (by unfold iJ;grind)⟩ ω ?_
        (exact wA))
  repeat'(first|refine gE ?_|fail)
  (conv=>whnf)
  refine CF (i+1) ⟨ω,cX (wv c b) w (by grind [gX])⟩ ω ?_;exact wB
 repeat'(first|refine gE ?_|fail)
 exact Z0 (λz=>[B z]) (by grind [List.length_zip,d3])
theorem DS(t:aL)(b:Int)(e:aL.sml t):zzA 469 false [.val (some 1) (aL.enc .V t),.val none [I b]] .one [B (gt t b)]:=by
 have k:=e.1;refine fO 54 [] Tryz.func469 rfl ?_
 repeat'(first|refine gP ?_|fail)
 (conv=>whnf)
 refine CJ (ι:=Nat) (λi=>[(1,.H .one [I (b)]),(2,.H .box (aL.enc .V t)),(5,.H .one [I ((i:Nat):Int)])]) (λi=>i<=t.K.length/\df i (λj=>kH b (nth t.K j))=true) (λi=>t.K.length - i) 0 ?_ ⟨X0 _,rfl⟩ λi c=>?_
 ·exact wB
 obtain⟨c,g⟩:=c;by_cases d:i<t.K.length
 ·have h:=au d
  repeat'(first|refine gE ?_|(conv=>whnf);first|with_reducible (first|refine CE (aa h) ?_|refine Bf.D (λa=>?_) (λa=>?_)|refine Bf.N (λa=>?_) (λa=>?_)|refine Bf.E (λa=>?_) (λa=>?_))|refine C9 (aJ _ 0 2) ?_)
  all_goals first
   | exact Z0 (λz=>[B z]) ((by symm;unfold gt;rw[cC d (W0 ψ)];rfl))
   | ((conv=>whnf);refine CF (i+1) ⟨ω,bU g (O0 ψ)⟩ ω ?_;(exact wB))
 repeat'(first|refine gE ?_|(conv=>whnf);first|refine C9 (aJ _ 1 32) ?_)
 obtain rfl:i=t.K.length:=ω
 exact Z0 (λz=>[B z]) ((by grind [gt]))
theorem Eb(t:aL)(b:Int)(e:aL.sml t):zzA 243 false [.val (some 1) (aL.enc .V t),.val none [I b]] .one [B (gt t b)]:=by
 have k:=e.1;refine fO 49 [] Tryz.func243 rfl ?_
 repeat'(first|refine gP ?_|fail)
 (conv=>whnf)
 refine CJ (ι:=Nat) (λi=>[(1,.H .one [I (b)]),(2,.H .box (aL.enc .V t)),(8,.H .one (EW .V t.K)),(9,.H .one [I (t.K.length)]),(10,.H .one [I ((i:Nat):Int)])]) (λi=>i<=t.K.length/\df i (λj=>kH b (nth t.K j))=true) (λi=>t.K.length - i) 0 ?_ ⟨X0 _,rfl⟩ λi c=>?_
 ·exact wB
 obtain⟨c,g⟩:=c;by_cases d:i<t.K.length
 ·have h:=au d
  repeat'(first|refine gE ?_|(conv=>whnf);first|with_reducible (first|refine CE (aa h) ?_|refine Bf.D (λa=>?_) (λa=>?_)|refine Bf.N (λa=>?_) (λa=>?_)|refine Bf.E (λa=>?_) (λa=>?_))|refine C9 (aN _ 0 2) ?_)
  all_goals first
   | exact Z0 (λz=>[B z]) ((by symm;unfold gt;rw[cC d (W0 ψ)];rfl))
   | ((conv=>whnf);refine CF (i+1) ⟨ω,bU g (O0 ψ)⟩ ω ?_;(exact wB))
 repeat'(first|refine gE ?_|(conv=>whnf);first|refine C9 (aN _ 1 32) ?_)
 obtain rfl:i=t.K.length:=ω
 exact Z0 (λz=>[B z]) ((by grind [gt]))
theorem gR(t:aL)(f:Int)(c:aL.sml t):zzA 470 false [.val (some 1) (aL.enc .V t),.val none [I f]] .one (aH .own (pagesOn t f)):=by
 have j:=c.1;refine fO 37 [] Tryz.func470 rfl ?_ (.inr (bO _))
 repeat'(first|refine gP ?_|fail)
 (conv=>whnf)
 refine CJ (ι:=Nat) (λi=>[(1,.H .one [I (f)]),(2,.H .box (aL.enc .V t)),(5,.H .one (aH .own (jP t f i))),(6,.H .one [I ((i:Nat):Int)])]) (λi=>i<=t.K.length) (λi=>t.K.length - i) (0) ?_ (X0 _) λi k=>?_
 ·exact wB
 have d:=tU t f i;by_cases e:i<t.K.length
 ·have g:=au e
  repeat'(first|refine gE ?_|(conv=>whnf);first|with_reducible (first|refine CE (aa g) ?_|refine Bf.D (λb=>?_) (λb=>?_)|refine Bf.N (λb=>?_) (λb=>?_)|refine Bf.E (λb=>?_) (λb=>?_))|refine CV cB (λr h=>by rw[V1.1 h];rfl) (by simp[bj,ed]) (by simp;omega) (by simp only[I1];exact zh (by simp;omega) (by decide)) rfl ?_)
  all_goals first
   |(have a:Ps t f i=true:=O0 ψ
     (conv=>whnf)
     refine CF (i+1) ω ω ?_;rw[AJ a]
     (repeat'(first|exact trivial|rfl|exact CM rfl (CM (Z0 (C.s dR.own) (by simp[rI])) trivial)|refine CM ?_ ?_)))
   |(have a:Ps t f i=false:=W0 ψ
     (conv=>whnf)
     refine CF (i+1) ω ω ?_;rw[FJ a]
     (exact wA))
 repeat'(first|refine gE ?_|fail)
 obtain rfl:i=t.K.length:=ω
 rfl
theorem kR(t:aL)(f:Int)(c:aL.sml t):zzA 244 false [.val (some 1) (aL.enc .V t),.val none [I f]] .one (aH .own (pagesOn t f)):=by
 have j:=c.1;refine fO 32 [] Tryz.func244 rfl ?_ (.inr (bO _))
 repeat'(first|refine gP ?_|fail)
 (conv=>whnf)
 refine CJ (ι:=Nat) (λi=>[(1,.H .one [I (f)]),(5,.H .one (aH .own (jP t f i))),(10,.H .one (EW .V t.K)),(11,.H .one [I (t.K.length)]),(12,.H .one [I ((i:Nat):Int)])]) (λi=>i<=t.K.length) (λi=>t.K.length - i) (0) ?_ (X0 _) λi k=>?_
 ·exact wB
 have d:=tU t f i;by_cases e:i<t.K.length
 ·have g:=au e
  repeat'(first|refine gE ?_|(conv=>whnf);first|with_reducible (first|refine CE (aa g) ?_|refine Bf.D (λb=>?_) (λb=>?_)|refine Bf.N (λb=>?_) (λb=>?_)|refine Bf.E (λb=>?_) (λb=>?_))|refine CV cB (λr h=>by rw[V1.1 h];rfl) (by simp[bj,ed]) (by simp;omega) (by simp only[I1];exact zh (by simp;omega) (by decide)) rfl ?_)
  all_goals first
   |(have a:Ps t f i=true:=O0 ψ
     (conv=>whnf)
     refine CF (i+1) ω ω ?_;rw[AJ a]
     (repeat'(first|exact trivial|rfl|exact CM rfl (CM (Z0 (C.s dR.own) (by simp[rI])) trivial)|refine CM ?_ ?_)))
   |(have a:Ps t f i=false:=W0 ψ
     (conv=>whnf)
     refine CF (i+1) ω ω ?_;rw[FJ a]
     (exact wA))
 repeat'(first|refine gE ?_|fail)
 obtain rfl:i=t.K.length:=ω
 rfl
def dl(t:aL)(p:Int)(b:aL.sml t):zzA 34 false [.val (some 1) (aL.enc .V t),.val none [I p]] .agg (bm.enc .own (af t p)):=by
 have d:=b.1;refine fO 18 [] Tryz.func34 rfl ?_ (.inr (bm.enc_fr _));by_cases a:0<=p/\p<t.K.length
 ·have c:=au (xs:=t.K) (i:=p.toNat) ω
  repeat'(first|refine gE ?_|(conv=>whnf);first|refine C9 (aJ _ 0 _) ?_|refine CO a.1 (aa c) ?_)
  all_goals(unfold af;rw[CD a];rfl)
 repeat'(first|refine gE ?_|(conv=>whnf);first|refine C9 (aJ _ 0 _) ?_)
 all_goals(unfold af;rw[CB a];rfl)
def jf(t:aL)(p:Int)(b:aL.sml t):zzA 104 false [.val (some 1) (aL.enc .V t),.val none [I p]] .agg (bm.enc .own (af t p)):=by
 have d:=b.1;refine fO 18 [] Tryz.func104 rfl ?_ (.inr (bm.enc_fr _));by_cases a:0<=p/\p<t.K.length
 ·have c:=au (xs:=t.K) (i:=p.toNat) ω
  repeat'(first|refine gE ?_|(conv=>whnf);first|refine C9 (aN _ 0 _) ?_|refine CO a.1 (aa c) ?_)
  all_goals(unfold af;rw[CD a];rfl)
 repeat'(first|refine gE ?_|(conv=>whnf);first|refine C9 (aN _ 0 _) ?_)
 all_goals(unfold af;rw[CB a];rfl)
def rL(t:aL)(f:Int):(pagesOn t f).length<=t.K.length:=tU ..
theorem pA(m:aY)(a:aY.sml m):zzA 350 false [.val (some 3) (aY.enc .V m)] .one [B (dC m)]:=by
 have q:m.W.a5.length<=1048576:=a.1.2;have k:m.W.T.length<=1048576:=a.1.1.1;have b:=zA m.W a.1;have c:=DS m.R m.W.T.length a.2;cases d:d3 m.W with
 | false=>
  rw[d]at b;refine fO 39 [(6,13,[26,27,28,29,30,31,32,33,34,35,36,37,38])] Tryz.func350 rfl ?_
  repeat'(first|refine gP ?_|(conv=>whnf);first|refine C9 b ?_)
  exact Z0 (λz=>[B z]) ((by grind [dC]))
 | true=>
  have g:=Ee d;rw[d]at b;cases e:gt m.R m.W.a5.length with
  | false=>
   rw[show(m.W.T.length:Int)=m.W.a5.length by omega,e]at c;refine fO 39 [(6,13,[26,27,28,29,30,31,32,33,34,35,36,37,38])] Tryz.func350 rfl ?_
   repeat'(first|refine gP ?_|(conv=>whnf);first|refine C9 b ?_|refine C9 ((show(m.W.T.length:Int)=m.W.a5.length by omega) ▸ c) ?_)
   exact Z0 (λz=>[B z]) ((by grind [dC]))
  | true=>
   rw[show(m.W.T.length:Int)=m.W.a5.length by omega,e]at c;refine fO 39 [(6,13,[26,27,28,29,30,31,32,33,34,35,36,37,38])] Tryz.func350 rfl ?_
   repeat'(first|refine gP ?_|(conv=>whnf);first|refine C9 b ?_|refine C9 ((show(m.W.T.length:Int)=m.W.a5.length by omega) ▸ c) ?_)
   (conv=>whnf)
   refine CJ (ι:=Nat) (λi=>[(1,.H .box (aY.enc .V m)),(3,.H .one [I ((i:Nat):Int)])]) (λi=>i<=m.W.a5.length/\df i (pu m)=true) (λi=>m.W.a5.length - i) 0 ?_ ⟨X0 _,rfl⟩ λi h=>?_
   ·exact wB
   obtain⟨h,l⟩:=h;by_cases j:i<m.W.a5.length
   ·have n:=au j
    have o:=rL m.R (i:Nat)
    repeat'(first|refine gE ?_|(conv=>whnf);first|with_reducible (first|refine CE (aa n) ?_|refine Bf.NB (λp=>?_) (λp=>?_))|refine C9 (gR m.R (i:Nat) a.2) ?_)
    all_goals first
     | exact Z0 (λz=>[B z]) ((by symm;unfold dC;rw[d,e,cC j (by unfold pu;grind)];rfl))
     | ((conv=>whnf);refine CF (i+1) ⟨ω,bU l (by unfold pu;grind)⟩ ω ?_;(exact wB))
   repeat'(first|refine gE ?_|fail)
   obtain rfl:i=m.W.a5.length:=ω
   exact Z0 (λz=>[B z]) ((by grind [dC]))
theorem xe(m:aY)(b:aY.sml m):zzA 87 false [.val (some 3) (aY.enc .V m)] .one [B (dC m)]:=by
 have o:m.W.a5.length<=1048576:=b.1.2;have a:=qS m.W b.1;have c:=Eb m.R m.W.a5.length b.2;cases d:d3 m.W with
 | false=>
  rw[d]at a;refine fO 37 [] Tryz.func87 rfl ?_
  repeat'(first|refine gP ?_|(conv=>whnf);first|refine C9 a ?_)
  exact Z0 (λz=>[B z]) ((by grind [dC]))
 | true=>
  rw[d]at a;cases e:gt m.R m.W.a5.length with
  | false=>
   rw[e]at c;refine fO 37 [] Tryz.func87 rfl ?_
   repeat'(first|refine gP ?_|(conv=>whnf);first|refine C9 a ?_|refine C9 c ?_)
   exact Z0 (λz=>[B z]) ((by grind [dC]))
  | true=>
   rw[e]at c;refine fO 37 [] Tryz.func87 rfl ?_
   repeat'(first|refine gP ?_|(conv=>whnf);first|refine C9 a ?_|refine C9 c ?_)
   (conv=>whnf)
   refine CJ (ι:=Nat) (λi=>[(1,.H .box (aY.enc .V m)),(21,.H .one (wP .V m.W.a5)),(22,.H .one [I (m.W.a5.length)]),(23,.H .one [I ((i:Nat):Int)])]) (λi=>i<=m.W.a5.length/\df i (pu m)=true) (λi=>m.W.a5.length - i) 0 ?_ ⟨X0 _,rfl⟩ λi g=>?_
   ·exact wB
   obtain⟨g,j⟩:=g;by_cases h:i<m.W.a5.length
   ·have k:=au h
    have l:=rL m.R (i:Nat)
    repeat'(first|refine gE ?_|(conv=>whnf);first|with_reducible (first|refine CE (aa k) ?_|refine Bf.NB (λn=>?_) (λn=>?_))|refine C9 (kR m.R (i:Nat) b.2) ?_)
    all_goals first
     | exact Z0 (λz=>[B z]) ((by symm;unfold dC;rw[d,e,cC h (by unfold pu;grind)];rfl))
     | ((conv=>whnf);refine CF (i+1) ⟨ω,bU j (by unfold pu;grind)⟩ ω ?_;(exact wB))
   repeat'(first|refine gE ?_|fail)
   obtain rfl:i=m.W.a5.length:=ω
   exact Z0 (λz=>[B z]) ((by grind [dC]))
def mB(k:ah)(d:ah.sml k):zzA 208 false [.val (some 5) (ah.enc .V k)] .one [B (aF k)]:=by
 have n:k.a0.length<=1048576:=d.2;have a:=pA k.F d.1;refine fO 31 [] Tryz.func208 rfl ?_
 repeat'(first|refine gP ?_|fail)
 (conv=>whnf)
 refine CJ (ι:=Nat) (λi=>[(1,.H .box (ah.enc .V k)),(3,.H .one [I ((i:Nat):Int)])]) (λi=>i<=k.a0.length/\df i (λj=>decide (0<=nth k.a0 j))=true) (λi=>k.a0.length - i) 0 ?_ ⟨X0 _,rfl⟩ λi e=>?_
 ·exact wB
 obtain⟨e,g⟩:=e;by_cases h:i<k.a0.length
 ·have l:=au h
  repeat'(first|refine gE ?_|(conv=>whnf);first|with_reducible (first|refine CE (aa l) ?_|refine Bf.D (λc=>?_) (λc=>?_)))
  all_goals first
   | exact Z0 (λz=>[B z]) ((by symm;unfold aF;rw[cC h (W0 ω)];rfl))
   | ((conv=>whnf);refine CF (i+1) ⟨ω,bU g (O0 ω)⟩ ω ?_;(exact wB))
 obtain rfl:i=k.a0.length:=ω
 cases b:dC k.F with
 | false=>
  rw[b]at a
  repeat'(first|refine gE ?_|(conv=>whnf);first|refine C9 a ?_)
  all_goals exact Z0 (λz=>[B z]) ((by unfold aF;rw[b];simp))
 | true=>
  rw[b]at a
  repeat'(first|refine gE ?_|(conv=>whnf);first|with_reducible refine Bf.D (λc=>?_) (λc=>?_)|refine C9 a ?_|refine C9 (aJ _ 0 100000) ?_)
  all_goals exact Z0 (λz=>[B z]) ((by unfold aF;rw[b,g];simp only[Bool.true_and];first|exact decide_eq_decide.2 ω|(symm;exact W0 ω)|(symm;exact O0 ω)))
def re(k:ah)(b:ah.sml k):zzA 26 false [.val (some 5) (ah.enc .V k)] .one [B (aF k)]:=by
 have l:k.a0.length<=1048576:=b.2;have g:=xe k.F b.1;refine fO 29 [] Tryz.func26 rfl ?_
 repeat'(first|refine gP ?_|fail)
 (conv=>whnf)
 refine CJ (ι:=Nat) (λi=>[(1,.H .box (ah.enc .V k)),(6,.H .one (aH .V k.a0)),(7,.H .one [I (k.a0.length)]),(8,.H .one [I ((i:Nat):Int)])]) (λi=>i<=k.a0.length/\df i (λj=>decide (0<=nth k.a0 j))=true) (λi=>k.a0.length - i) 0 ?_ ⟨X0 _,rfl⟩ λi c=>?_
 ·exact wB
 obtain⟨c,d⟩:=c;by_cases e:i<k.a0.length
 ·have h:=au e
  repeat'(first|refine gE ?_|(conv=>whnf);first|with_reducible (first|refine CE (aa h) ?_|refine Bf.D (λa=>?_) (λa=>?_)))
  all_goals first
   | exact Z0 (λz=>[B z]) ((by symm;unfold aF;rw[cC e (W0 ω)];rfl))
   | ((conv=>whnf);refine CF (i+1) ⟨ω,bU d (O0 ω)⟩ ω ?_;(exact wB))
 obtain rfl:i=k.a0.length:=ω
 repeat'(first|refine gE ?_|(conv=>whnf);first|with_reducible refine Bf.D (λa=>?_) (λa=>?_)|refine C9 g ?_|refine C9 (aN _ 0 100000) ?_)
 all_goals exact Z0 (λz=>[B z]) ((by unfold aF;rw[d];cases dC k.F<;>simp only[Bool.true_and,Bool.false_and]<;>first|rfl|exact decide_eq_decide.2 ω|(symm;exact W0 ω)|(symm;exact O0 ω)))
def yk(pages:Int)(r:aB)(b:0<=pages/\pages<=1048576):zzA 351 false [.val none [I pages],.val (some 2) (aB.enc .V r)] .one [B (rangeIn pages r)]:=by
 refine fO 18 [] Tryz.func351 rfl ?_
 repeat'(first|refine gP ?_|(conv=>whnf);first|with_reducible refine Bf.D (λa=>?_) (λa=>?_)|refine C9 (aJ _ 1 _) ?_|refine C9 (aJ _ 0 _) ?_)
 all_goals exact Z0 (λz=>[B z]) ((by unfold rangeIn;first|(symm;exact W0 ω)|exact decide_eq_decide.2 ω))
def GS(pages:Int)(r:aB)(b:0<=pages/\pages<=1048576):zzA 223 false [.val none [I pages],.val (some 2) (aB.enc .V r)] .one [B (rangeIn pages r)]:=by
 refine fO 18 [] Tryz.func223 rfl ?_
 repeat'(first|refine gP ?_|(conv=>whnf);first|with_reducible refine Bf.D (λa=>?_) (λa=>?_)|refine C9 (aN _ 1 _) ?_|refine C9 (aN _ 0 _) ?_)
 all_goals exact Z0 (λz=>[B z]) ((by unfold rangeIn;first|(symm;exact W0 ω)|exact decide_eq_decide.2 ω))
theorem nH(k:Int):zzA 472 false [.val none [I k]] .one [I (slots k)]:=by
 by_cases b:0<=k/\k<=3
 ·obtain rfl|rfl|rfl|rfl:k=0\/k=1\/k=2\/k=3:=ω
  all_goals
   refine fO 9 [] Tryz.func472 rfl ?_
   repeat'(first|refine gE ?_|(conv=>whnf);first|with_reducible refine Bf.D (λa=>?_) (λa=>?_)|refine C9 (aJ _ 0 3) ?_|refine CP (by decide) ?_|refine CN rfl ?_|refine CT rfl ?_)
   exact Z0 (λz=>[I z]) (by decide)
 refine fO 9 [] Tryz.func472 rfl ?_
 repeat'(first|refine gE ?_|(conv=>whnf);first|with_reducible refine Bf.D (λa=>?_) (λa=>?_)|refine C9 (aJ _ 0 3) ?_)
 exact Z0 (λz=>[I z]) (by grind [slots])
theorem fZ(k:Int):zzA 335 false [.val none [I k]] .one [I (slots k)]:=by
 by_cases b:0<=k/\k<=3
 ·obtain rfl|rfl|rfl|rfl:k=0\/k=1\/k=2\/k=3:=ω
  all_goals
   refine fO 9 [] Tryz.func335 rfl ?_
   repeat'(first|refine gE ?_|(conv=>whnf);first|with_reducible refine Bf.D (λa=>?_) (λa=>?_)|refine C9 (fA _) ?_|refine C9 (fI _) ?_|refine CP (by decide) ?_|refine CN rfl ?_|refine CT rfl ?_)
   exact Z0 (λz=>[I z]) (by decide)
 refine fO 9 [] Tryz.func335 rfl ?_
 repeat'(first|refine gE ?_|(conv=>whnf);first|with_reducible refine Bf.D (λa=>?_) (λa=>?_)|refine C9 (fA _) ?_)
 exact Z0 (λz=>[I z]) (by grind [slots])
def LC(k b:Int):Bool:=decide (0<=k/\k<=3/\0<=b/\b<=lim k)
theorem rd(k b:Int):zzA 471 false [.val none [I (slots k)],.val none [I b]] .one [B (LC k b)]:=by
 by_cases d:0<=k/\k<=3
 ·obtain rfl|rfl|rfl|rfl:k=0\/k=1\/k=2\/k=3:=ω
  all_goals
   first|rw[show slots 0=16 from rfl]|rw[show slots 1=8 from rfl]|rw[show slots 2=4 from rfl]|rw[show slots 3=2 from rfl]
   refine fO 15 [] Tryz.func471 rfl ?_
   repeat'(first|refine gE ?_|(conv=>whnf);first|with_reducible refine Bf.D (λa=>?_) (λa=>?_)|refine C9 (aJ _ 1 16) ?_|refine C9 (aJ _ 0 _) ?_|refine CP (by decide) ?_|refine CN (show _=(65536:Int) by decide) ?_|refine CN (show _=(65535:Int) by decide) ?_|refine CN (show _=(256:Int) by decide) ?_|refine CN (show _=(255:Int) by decide) ?_|refine CN (show _=(16:Int) by decide) ?_|refine CN (show _=(15:Int) by decide) ?_|refine CN (show _=(4:Int) by decide) ?_|refine CN (show _=(8:Int) by decide) ?_|refine CN (show _=(2:Int) by decide) ?_|refine CN (show _=(3:Int) by decide) ?_)
   all_goals exact Z0 (λz=>[B z]) ((decide_eq_decide.2 (by simp[lim])))
 have c:slots k=0:=by grind [slots]
 rw[c];refine fO 15 [] Tryz.func471 rfl ?_
 repeat'(first|refine gE ?_|(conv=>whnf);first|with_reducible refine Bf.D (λa=>?_) (λa=>?_)|refine C9 (aJ _ 1 16) ?_)
 exact Z0 (λz=>[B z]) ((by symm;exact W0 ω))
theorem qV(k b:Int):zzA 375 false [.val none [I (slots k)],.val none [I b]] .one [B (LC k b)]:=by
 by_cases d:0<=k/\k<=3
 ·obtain rfl|rfl|rfl|rfl:k=0\/k=1\/k=2\/k=3:=ω
  all_goals
   first|rw[show slots 0=16 from rfl]|rw[show slots 1=8 from rfl]|rw[show slots 2=4 from rfl]|rw[show slots 3=2 from rfl]
   refine fO 14 [] Tryz.func375 rfl ?_
   repeat'(first|refine gE ?_|(conv=>whnf);first|with_reducible refine Bf.D (λa=>?_) (λa=>?_)|refine C9 (aN _ 1 16) ?_|refine C9 (aN _ 0 _) ?_|refine CP (by decide) ?_|refine CN (fC (by decide) (by decide)) ?_)
   all_goals exact Z0 (λz=>[B z]) ((decide_eq_decide.2 (by simp[lim,IntKind.bits])))
 have c:slots k=0:=by grind [slots]
 rw[c];refine fO 14 [] Tryz.func375 rfl ?_
 repeat'(first|refine gE ?_|(conv=>whnf);first|with_reducible refine Bf.D (λa=>?_) (λa=>?_)|refine C9 (aN _ 1 16) ?_)
 exact Z0 (λz=>[B z]) ((by symm;exact W0 ω))
def gN(s:aA):zzA 352 false [.val (some 3) (aA.enc .V s)] .one [B (bi s)]:=by
 refine fO 14 [(1,12,[3,4,5,6,7,8,9,10,11,12,13,2])] Tryz.func352 rfl ?_
 repeat'(first|refine gP ?_|(conv=>whnf);first|with_reducible refine Bf.D (λa=>?_) (λa=>?_)|refine C9 (aJ _ 0 31) ?_|refine C9 (nH _) ?_|refine C9 (rd _ _) ?_)
 all_goals exact Z0 (λz=>[B z]) ((by unfold bi;first|(symm;exact W0 ω)|exact decide_eq_decide.2 ω))
def jU(s:aA):zzA 225 false [.val (some 3) (aA.enc .V s)] .one [B (bi s)]:=by
 refine fO 19 [(1,17,[3,4,5,6,7,8,9,10,11,12,13,14,15,16,17,18,2])] Tryz.func225 rfl ?_
 repeat'(first|refine gP ?_|(conv=>whnf);first|with_reducible refine Bf.D (λa=>?_) (λa=>?_)|refine C9 (aN _ 0 31) ?_|refine C9 (fA _) ?_|refine C9 (fZ _) ?_|refine C9 (qV _ _) ?_)
 all_goals exact Z0 (λz=>[B z]) ((by unfold bi;first|(symm;exact W0 ω)|exact decide_eq_decide.2 ω))
section
variable{α:Type}{xs:List α}{p:α->Bool}{i:Nat}{y:α}
theorem Ec(h:xs[i]? = some y)(a:p y=true):xs.any p=true:=I4.2 ψ
theorem x8(h:xs[i]? = some y)(a:(xs.take i).any p=false)(b:p y=false):(xs.take (i+1)).any p=false:=by grind [I6]
theorem Uj(a:xs.length<=i)(b:(xs.take i).any p=false):xs.any p=false:=by grind [Z7]
theorem gu[Inhabited α](a:0<i)(b:i<xs.length):xs[((i:Int) - 1).toNat]? = some (nth xs (i - 1)):=by
 rw[show((i:Int) - 1).toNat=i - 1 by omega];grind [au]
end
theorem ym{pages:Int}{xs:List aB}(a:df n (gx pages xs)=true)(b:i<n):1<=(nth xs i).a8/\(nth xs i).a8<=pages/\0<=(nth xs i).At/\(nth xs i).At<=pages - (nth xs i).a8:=by grind [eZ,gx,rangeIn]
theorem m7(pages:Int)(xs:List aB)(d:0<=pages/\pages<=1048576)(k:gG xs):zzA 209 false [.val none [I pages],.val none (bv .V xs)] .one [B (bF pages xs)]:=by
 have n:=k.1;refine fO 46 [(4,32,[12,13,14,15,16,17,18,19,20,21,22,23,24,25,26,27,28,29,30,31,32,33,34,35,36,37,38,39,40,41,42,43])] Tryz.func209 rfl ?_
 repeat'(first|refine gP ?_|fail)
 (conv=>whnf)
 refine CJ (ι:=Nat) (λi=>[(0,.H .one [I (pages)]),(1,.H .one (bv .V xs)),(5,.H .one [I ((i:Nat):Int)])]) (λi=>i<=xs.length/\df i (gx pages xs)=true) (λi=>xs.length - i) 0 ?_ ⟨X0 _,rfl⟩ λi e=>?_
 ·exact wB
 obtain⟨e,g⟩:=e;by_cases c:i<xs.length
 ·have j:=au c
  have o:0<i->1<=(nth xs (i - 1)).a8/\(nth xs (i - 1)).a8<=pages/\0<=(nth xs (i - 1)).At/\(nth xs (i - 1)).At<=pages - (nth xs (i - 1)).a8:=λh=>ym g ω
  cases b:rangeIn pages (nth xs i) with
  | false=>
   have a:=yk pages (nth xs i) d;rw[b]at a
   repeat'(first|refine gE ?_|(conv=>whnf);first|with_reducible refine CE (aa j) ?_|refine C9 a ?_)
   exact Z0 (λz=>[B z]) ((by grind [cC,bF,gx]))
  | true=>
   have a:=yk pages (nth xs i) d;rw[b]at a
   repeat'(first|refine gE ?_|(conv=>whnf);first|with_reducible (first|refine CE (aa j) ?_|refine Bf.D (λl=>?_) (λl=>?_))|refine C9 a ?_|refine CO ω (aa (gu ω c)) ?_)
   all_goals first
    | exact Z0 (λz=>[B z]) ((by symm;unfold bF;rw[cC c (by unfold gx;rw[b,W0 ω];rfl)];rfl))
    | ((conv=>whnf);refine CF (i+1) ⟨ω,bU g (by unfold gx;rw[b,O0 ω];rfl)⟩ ω ?_;(exact wB))
 repeat'(first|refine gE ?_|(conv=>whnf);first|refine C9 (aJ pages 1 32) ?_)
 grind [bF]
theorem qL(pages:Int)(xs:List aB)(j:0<=pages/\pages<=1048576)(k:gG xs):zzA 75 false [.val none [I pages],.val none (bv .V xs)] .one [B (bF pages xs)]:=by
 have n:=k.1;refine fO 43 [(4,26,[14,15,16,17,18,19,20,21,22,23,24,25,26,27,28,29,30,31,32,33,34,35,36,37,38,39])] Tryz.func75 rfl ?_
 repeat'(first|refine gP ?_|fail)
 (conv=>whnf)
 refine CJ (ι:=Nat) (λi=>[(0,.H .one [I (pages)]),(1,.H .one (bv .V xs)),(7,.H .one (bv .V xs)),(8,.H .one [I (xs.length)]),(9,.H .one [I ((i:Nat):Int)])]) (λi=>i<=xs.length/\df i (gx pages xs)=true) (λi=>xs.length - i) 0 ?_ ⟨X0 _,rfl⟩ λi d=>?_
 ·exact wB
 obtain⟨d,e⟩:=d;by_cases c:i<xs.length
 ·have g:=au c
  have o:0<i->1<=(nth xs (i - 1)).a8/\(nth xs (i - 1)).a8<=pages/\0<=(nth xs (i - 1)).At/\(nth xs (i - 1)).At<=pages - (nth xs (i - 1)).a8:=λh=>ym e ω
  have a:=GS pages (nth xs i) j;cases b:rangeIn pages (nth xs i) with
  | false=>
   rw[b]at a
   repeat'(first|refine gE ?_|(conv=>whnf);first|with_reducible refine CE (aa g) ?_|refine C9 a ?_)
   exact Z0 (λz=>[B z]) ((by grind [cC,bF,gx]))
  | true=>
   rw[b]at a
   repeat'(first|refine gE ?_|(conv=>whnf);first|with_reducible (first|refine CE (aa g) ?_|refine Bf.D (λl=>?_) (λl=>?_))|refine C9 a ?_|refine CO ω (aa (gu ω c)) ?_)
   all_goals first
    | exact Z0 (λz=>[B z]) ((by symm;unfold bF;rw[cC c (by unfold gx;rw[b,W0 ω];rfl)];rfl))
    | ((conv=>whnf);refine CF (i+1) ⟨ω,bU e (by unfold gx;rw[b,O0 ω];rfl)⟩ ω ?_;(exact wB))
 repeat'(first|refine gE ?_|(conv=>whnf);first|refine C9 (aN pages 1 32) ?_)
 grind [bF]
theorem zq(xs:List aB)(page:Int)(g:xs.length<=9223372036854775807):zzA 356 false [.val none (bv .V xs),.val none [I page]] .one [B (xs.any (vS page))]:=by
 refine fO 34 [(4,22,[12,13,14,15,16,17,18,19,20,21,22,23,24,25,26,27,28,29,30,31,32,33])] Tryz.func356 rfl ?_
 repeat'(first|refine gP ?_|fail)
 (conv=>whnf)
 refine CJ (ι:=Nat) (λi=>[(0,.H .one (bv .V xs)),(1,.H .one [I (page)]),(5,.H .one [I ((i:Nat):Int)])]) (λi=>i<=xs.length/\(xs.take i).any (vS page)=false) (λi=>xs.length - i) (0) ?_ ψ λi b=>?_
 ·exact wB
 obtain⟨b,c⟩:=b;by_cases d:i<xs.length
 ·have a:=au d
  repeat'(first|refine gE ?_|(conv=>whnf);first|with_reducible (first|refine CE (aa a) ?_|refine Bf.D (λe=>?_) (λe=>?_))|refine CN rfl ?_)
  all_goals first
   | exact Z0 (λz=>[B z]) ((Ec a (by unfold vS;rw[O0 (by assumption),O0 (by assumption)];rfl)).symm)
   | ((conv=>whnf);refine CF (i+1) ⟨ω,x8 a c (by unfold vS;first|(rw[W0 (by assumption:¬(nth xs i).At<=page)];rfl)|(rw[W0 (by assumption:¬page<_)];simp))⟩ ω ?_;(exact wB))
 repeat'(first|refine gE ?_|fail)
 exact Z0 (λz=>[B z]) ψ
variable{z:Int}
def tdiv16(h:0<=z):z.tdiv 16=z / 16:=Int.tdiv_eq_ediv_of_nonneg h
theorem my(z:Int):zzA 370 false [.val none [I z]] .one [I (eX z)]:=by
 refine fO 10 [] Tryz.func370 rfl ?_;by_cases b:9<=z/\z<=1000
 ·repeat'(first|refine gE ?_|(conv=>whnf);first|with_reducible refine Bf.D (λa=>?_) (λa=>?_)|refine C9 (aJ z 9 1000) ?_|refine CP (by decide) ?_|refine CN ((Z0 _ (tdiv16 ω)).trans (fC ω ω)) ?_)
  grind [eX]
 repeat'(first|refine gE ?_|(conv=>whnf);first|with_reducible refine Bf.D (λa=>?_) (λa=>?_)|refine C9 (aJ z 9 1000) ?_)
 all_goals exact Z0 (λz=>[I z]) (by unfold eX;rw[CB b])
theorem rh(z:Int):zzA 191 false [.val none [I z]] .one [I (eX z)]:=by
 refine fO 10 [] Tryz.func191 rfl ?_;by_cases b:9<=z/\z<=1000
 ·repeat'(first|refine gE ?_|(conv=>whnf);first|with_reducible refine Bf.D (λa=>?_) (λa=>?_)|refine C9 (aN z 9 1000) ?_|refine CP (by decide) ?_|refine CN ((Z0 _ (tdiv16 ω)).trans (fC ω ω)) ?_)
  grind [eX]
 repeat'(first|refine gE ?_|(conv=>whnf);first|with_reducible refine Bf.D (λa=>?_) (λa=>?_)|refine C9 (aN z 9 1000) ?_)
 all_goals exact Z0 (λz=>[I z]) (by unfold eX;rw[CB b])
def nZ(l:aC):zzA 354 false [.val (some 3) (aC.enc .V l)] .one [B (bN l)]:=by
 have b:=my l.q;by_cases c:9<=l.q/\l.q<=1000
 ·rw[show eX l.q=(l.q+15) / 16 from CD c]at b
  refine fO 22 [] Tryz.func354 rfl ?_
  repeat'(first|refine gP ?_|(conv=>whnf);first|with_reducible (first|refine Bf.D (λa=>?_) (λa=>?_)|refine Bf.E (λa=>?_) (λa=>?_))|refine C9 b ?_|refine C9 (aJ _ 0 _) ?_)
  all_goals exact Z0 (λz=>[B z]) ((by unfold bN;first|(symm;exact W0 ω)|exact decide_eq_decide.2 ω))
 rw[show eX l.q=0 from CB c]at b;refine fO 22 [] Tryz.func354 rfl ?_
 repeat'(first|refine gE ?_|(conv=>whnf);first|with_reducible refine Bf.D (λa=>?_) (λa=>?_)|refine C9 b ?_)
 all_goals exact Z0 (λz=>[B z]) ((by unfold bN;symm;exact W0 ω))
def sq(l:aC):zzA 226 false [.val (some 3) (aC.enc .V l)] .one [B (bN l)]:=by
 have b:=rh l.q;by_cases c:9<=l.q/\l.q<=1000
 ·rw[show eX l.q=(l.q+15) / 16 from CD c]at b
  refine fO 22 [(1,20,[3,4,5,6,7,8,9,10,11,12,13,14,15,16,17,18,19,20,21,2])] Tryz.func226 rfl ?_
  repeat'(first|refine gE ?_|(conv=>whnf);first|with_reducible (first|refine Bf.D (λa=>?_) (λa=>?_)|refine Bf.E (λa=>?_) (λa=>?_))|refine C9 b ?_|refine C9 (aN _ 9 1000) ?_|refine C9 (aN _ 0 _) ?_)
  all_goals exact Z0 (λz=>[B z]) ((by unfold bN;first|(symm;exact W0 ω)|exact decide_eq_decide.2 ω))
 refine fO 22 [(1,20,[3,4,5,6,7,8,9,10,11,12,13,14,15,16,17,18,19,20,21,2])] Tryz.func226 rfl ?_
 repeat'(first|refine gE ?_|(conv=>whnf);first|with_reducible refine Bf.D (λa=>?_) (λa=>?_)|refine C9 (aN _ 9 1000) ?_)
 all_goals exact Z0 (λz=>[B z]) ((by unfold bN;symm;exact W0 ω))
theorem qr(h:0<=z/\z<=9223372036854775807):(BitVec.ofInt IntKind.i64.bits z).toNat=z.toNat:=by
 show(BitVec.ofInt 64 z).toNat=z.toNat
 grind
theorem and64{z1 z2:Int}(h1:0<=z1/\z1<=9223372036854775807)(a:0<=z2/\z2<=9223372036854775807):IntKind.i64.wrap ((BitVec.ofInt IntKind.i64.bits z1 &&& BitVec.ofInt IntKind.i64.bits z2).toNat:Nat)=((z1.toNat &&& z2.toNat:Nat):Int):=by grind [qr,Nat.and_le_left,fC]
theorem Jm(k:Int):lim k<=65535:=by grind [lim]
variable{s:aA}
def fV(h:bi s=true):0<=s.a9/\s.a9<=9223372036854775807:=by
 unfold bi at h;simp only[C0]at h;have:=Jm s.d;omega
def mE(b c:aA):zzA 357 false [.val (some 3) (aA.enc .V b),.val (some 3) (aA.enc .V c)] .one [B (meshable b c)]:=by
 have g:=gN b;have h:=gN c;cases d:bi b<;>rw[d]at g<;>cases e:bi c<;>rw[e]at h
 all_goals
  refine fO 33 [] Tryz.func357 rfl ?_
  repeat'(first|refine gP ?_|(conv=>whnf);first|with_reducible (first|refine Bf.D (λa=>?_) (λa=>?_)|refine Bf.N (λa=>?_) (λa=>?_)|refine Bf.E (λa=>?_) (λa=>?_))|refine C9 g ?_|refine C9 h ?_|refine CN (and64 (fV d) (fV e)) ?_)
  all_goals exact Z0 (λz=>[B z]) ((by unfold meshable;rw[d,e];first|rfl|(symm;exact W0 ω)|(rw[C5];simp;omega)))
def z7(b c:aA):zzA 229 false [.val (some 3) (aA.enc .V b),.val (some 3) (aA.enc .V c)] .one [B (meshable b c)]:=by
 have g:=jU b;have h:=jU c;cases d:bi b<;>rw[d]at g<;>cases e:bi c<;>rw[e]at h
 all_goals
  refine fO 33 [] Tryz.func229 rfl ?_
  repeat'(first|refine gP ?_|(conv=>whnf);first|with_reducible (first|refine Bf.D (λa=>?_) (λa=>?_)|refine Bf.N (λa=>?_) (λa=>?_)|refine Bf.E (λa=>?_) (λa=>?_))|refine C9 g ?_|refine C9 h ?_|refine CN (and64 (fV d) (fV e)) ?_)
  all_goals exact Z0 (λz=>[B z]) ((by unfold meshable;rw[d,e];first|rfl|(symm;exact W0 ω)|(rw[C5];simp;omega)))
def Lg(k:Int):zzA 384 false [.val none [I k]] .one [B (decide (0<=k/\k<=15))]:=by
 refine fO 5 [] Tryz.func384 rfl ?_
 repeat'(first|refine gP ?_|(conv=>whnf);first|refine C9 (aN k 0 15) ?_)
 rfl
def vz(p:cA)(e:cA.sml p):zzA 365 false [.val (some 3) (cA.enc .V p)] .one [B (eR p)]:=by
 have h:p.T.length<=1048576:=e;refine fO 51 [(4,25,[11,12,13,14,15,16,17,18,19,20,21,22,23,24,25,26,27,28,29,30,31,32,33,34,35])] Tryz.func365 rfl ?_
 repeat'(first|refine gP ?_|fail)
 (conv=>whnf)
 refine CJ (ι:=Nat) (λi=>[(1,.H .box (cA.enc .V p)),(3,.H .one [I ((i:Nat):Int)])]) (λi=>i<=p.T.length/\df i (mF p.T)=true) (λi=>p.T.length - i) 0 ?_ ⟨X0 _,rfl⟩ λi c=>?_
 ·exact wB
 obtain⟨c,d⟩:=c;by_cases b:i<p.T.length
 ·have g:=au b
  repeat'(first|refine gE ?_|(conv=>whnf);first|with_reducible (first|refine CE (aa g) ?_|refine Bf.D (λa=>?_) (λa=>?_))|refine C9 (aJ _ 0 15) ?_|refine CO ω (aa (gu ω b)) ?_)
  all_goals first
   | exact Z0 (λz=>[B z]) ((by symm;unfold eR;rw[cC b (W0 ω)];rfl))
   | ((conv=>whnf);refine CF (i+1) ⟨ω,bU d (O0 ω)⟩ ω ?_;(exact wB))
 obtain rfl:i=p.T.length:=ω
 repeat'(first|refine gE ?_|(conv=>whnf);first|with_reducible (first|refine Bf.D (λa=>?_) (λa=>?_)|refine Bf.NB (λa=>?_) (λa=>?_)|refine Bf.N (λa=>?_) (λa=>?_))|refine C9 (aJ _ 0 31) ?_)
 all_goals exact Z0 (λz=>[B z]) ((by unfold eR;rw[d];simp only[Bool.true_and];first|(symm;exact W0 ω)|exact decide_eq_decide.2 ω|(rw[C5];simp;omega)))
def FD(p:cA)(e:cA.sml p):zzA 239 false [.val (some 3) (cA.enc .V p)] .one [B (eR p)]:=by
 have h:p.T.length<=1048576:=e;refine fO 46 [] Tryz.func239 rfl ?_
 repeat'(first|refine gP ?_|fail)
 (conv=>whnf)
 refine CJ (ι:=Nat) (λi=>[(1,.H .box (cA.enc .V p)),(6,.H .one (aH .V p.T)),(7,.H .one [I (p.T.length)]),(8,.H .one [I ((i:Nat):Int)])]) (λi=>i<=p.T.length/\df i (mF p.T)=true) (λi=>p.T.length - i) 0 ?_ ⟨X0 _,rfl⟩ λi c=>?_
 ·exact wB
 obtain⟨c,d⟩:=c;by_cases b:i<p.T.length
 ·have g:=au b
  repeat'(first|refine gE ?_|(conv=>whnf);first|with_reducible (first|refine CE (aa g) ?_|refine Bf.D (λa=>?_) (λa=>?_))|refine C9 (Lg _) ?_|refine CO ω (aa (gu ω b)) ?_)
  all_goals first
   | exact Z0 (λz=>[B z]) ((by symm;unfold eR;rw[cC b (W0 ω)];rfl))
   | ((conv=>whnf);refine CF (i+1) ⟨ω,bU d (O0 ω)⟩ ω ?_;(exact wB))
 obtain rfl:i=p.T.length:=ω
 repeat'(first|refine gE ?_|(conv=>whnf);first|with_reducible (first|refine Bf.D (λa=>?_) (λa=>?_)|refine Bf.NB (λa=>?_) (λa=>?_)|refine Bf.N (λa=>?_) (λa=>?_))|refine C9 (aN _ 0 31) ?_)
 all_goals exact Z0 (λz=>[B z]) ((by unfold eR;rw[d];simp only[Bool.true_and];first|(symm;exact W0 ω)|exact decide_eq_decide.2 ω|(rw[C5];simp;omega)))
def xk(j:cJ)(a:cJ.sml j):zzA 218 false [.val (some 5) (cJ.enc .V j)] .one [B (jR j)]:=by
 have e:j.X.T.length<=1048576:=a;have b:=vz j.X a;cases c:eR j.X<;>rw[c]at b
 all_goals
  refine fO 20 [] Tryz.func218 rfl ?_
  repeat'(first|refine gP ?_|(conv=>whnf);first|with_reducible refine Bf.D (λd=>?_) (λd=>?_)|refine C9 b ?_|refine C9 (aJ _ 0 5) ?_|refine C9 (aJ _ 0 _) ?_)
  all_goals exact Z0 (λz=>[B z]) ((by unfold jR;rw[c];first|rfl|(symm;exact W0 ω)|(rw[C5];simp;omega)))
def HV(j:cJ)(a:cJ.sml j):zzA 84 false [.val (some 5) (cJ.enc .V j)] .one [B (jR j)]:=by
 have e:j.X.T.length<=1048576:=a;have b:=FD j.X a;cases c:eR j.X<;>rw[c]at b
 all_goals
  refine fO 20 [] Tryz.func84 rfl ?_
  repeat'(first|refine gP ?_|(conv=>whnf);first|with_reducible refine Bf.D (λd=>?_) (λd=>?_)|refine C9 b ?_|refine C9 (aN _ 0 5) ?_|refine C9 (aN _ 0 _) ?_)
  all_goals exact Z0 (λz=>[B z]) ((by unfold jR;rw[c];first|rfl|(symm;exact W0 ω)|(rw[C5];simp;omega)))
theorem kY(l:aC)(k:Nat):lpgs l (k+1)=lpgs l k++[l.Q+(k:Nat)]:=by grind [List.range_succ,lpgs]
theorem EZ(l:aC)(k:Nat):(lpgs l k).length=k:=by unfold lpgs;simp
theorem MJ(l:aC)(h:k<=n):lpgs l k <+: lpgs l n:=by
 induction n with
 | zero=>
  grind
 | succ n a=>
  grind [kY]
variable{la:List aC}
theorem pK(sp:List aA){l:aC}(h:la[i]? = some l):pgs sp (la.take (i+1))=pgs sp (la.take i)++lpgs l l.a2.toNat:=by grind [I6,pgs]
theorem QW(sp:List aA)(la:List aC)(i:Nat):pgs sp (la.take i) <+: pgs sp la:=by grind [List.take_append_drop,pgs]
variable{p:Int}{S:List Int}
theorem Pj{all:List Int}(h:(S++[p]) <+: all)(a:p∈S):decide all.Nodup=false:=by grind [List.nodup_append]
theorem lB(h:S.Nodup)(a:p∉S):(S++[p]).Nodup:=ψ
variable{sp:List aA}
theorem GB(h:sp[i]? = some s):((sp.take i).map (·.Q)++[s.Q]) <+: pgs sp la:=by
 have a:(sp.take i).map (·.Q)++[s.Q]=(sp.take (i+1)).map (·.Q):=by grind [I6]
 rw[a];refine List.IsPrefix.trans ?_ (List.prefix_append ..)
 grind
theorem Aw{l:aC}(h:la[i]? = some l)(a:k<l.a2.toNat):(pgs sp (la.take i)++lpgs l k++[l.Q+(k:Nat)]) <+: pgs sp la:=by
 refine List.IsPrefix.trans ?_ (QW sp la (i+1));rw[pK sp h,O6,<-kY]
 grind [List.prefix_append_right_inj,MJ]
theorem rg(h:sp[i]? = some s)(a:bi s=false):bt sp la=false:=by grind [bt]
theorem p7{l:aC}(h:la[i]? = some l)(a:bN l=false):bt sp la=false:=by grind [bt]
theorem kQ(h:(S++[p]) <+: pgs sp la)(a:p∈S):bt sp la=false:=by grind [Pj,bt]
theorem sE(h1:sp.all bi=true)(a:la.all bN=true)(b:(pgs sp la).Nodup):bt sp la=true:=by grind [bt]
theorem aS{l:aC}(h:bN l=true):1<=l.a2/\l.a2<=63/\0<=l.Q/\l.Q<=31:=by grind [bN]
theorem mr(sp:List aA)(la:List aC)(t:dB sp)(u:dP la):zzA 210 false [.val none (cE .V sp),.val none (cz .V la)] .one [B (bt sp la)]:=by
 have J:=t.1;have K:=u.1;refine fO 79 [] Tryz.func210 rfl ?_
 repeat'(first|refine gP ?_|fail)
 (conv=>whnf)
 refine CJ (ι:=Nat × List Int) (λi=>[(0,.H .one (cE .V sp)),(1,.H .one (cz .V la)),(5,.H .one (aH .own i.2)),(6,.H .one [I ((i.1:Nat):Int)])]) (λi=>i.1<=sp.length/\i.2=(sp.take i.1).map (·.Q)/\(sp.take i.1).all bi=true/\i.2.Nodup) (λi=>sp.length - i.1) ((0,[])) ?_ ψ λi o=>?_
 ·exact wB
 obtain⟨i,S⟩:=i;obtain⟨o,q,d,h⟩:=o;simp only at o q d h |-;have L:S.length=i:=ψ
 by_cases w:i<sp.length
 ·have a:=au w
  have j:=gN (nth sp i);cases e:bi (nth sp i)<;>rw[e]at j
  ·repeat'(first|refine gE ?_|(conv=>whnf);first|with_reducible refine CE (aa a) ?_|refine C9 j ?_)
   exact Z0 (λz=>[B z]) ((rg a e).symm)
  repeat'(first|refine gE ?_|(conv=>whnf);first|with_reducible (first|refine CE (aa a) ?_|refine Bf.D (λy=>?_) (λy=>?_))|refine C9 j ?_|refine CK (mW S _ ω) ⟨⟨rfl,dA _⟩,⟨rfl,rfl⟩,trivial⟩ ?_|refine CV cB (λr E=>by rw[V1.1 E];rfl) (by simp[bj,ed]) (by simp;omega) (by simp only[I1];exact zh (by simp;omega) (by decide)) rfl ?_)
  all_goals first
   | exact Z0 (λz=>[B z]) ((kQ (S:=S) (by rw[q];exact GB a) (by assumption)).symm)
   | ((conv=>whnf)
      refine CF (i+1,S++[(nth sp i).Q]) ⟨(by simp only;omega),(by simp only;rw[q,I6,a];simp),(cX a d e),lB h (by assumption)⟩ (by simp only;omega) ?_
      (repeat'(first|exact trivial|rfl|exact CM rfl (CM (Z0 (C.s dR.own) (by simp[rI])) trivial)|refine CM ?_ ?_)))
 obtain rfl:i=sp.length:=ω
 rw[X5]at d q
 repeat'(first|refine gE ?_|fail)
 (conv=>whnf)
 refine CJ (ι:=Nat × List Int) (λi=>[(1,.H .one (cz .V la)),(5,.H .one (aH .own i.2)),(7,.H .one [I ((i.1:Nat):Int)])]) (λi=>i.1<=la.length/\i.2=pgs sp (la.take i.1)/\(la.take i.1).all bN=true/\i.2.Nodup/\i.2.length<=1048576+64*i.1) (λi=>la.length - i.1) ((0,S)) ?_ (⟨X0 _,by grind [pgs],rfl,h,by simp only;omega⟩) λi o=>?_
 ·exact wB
 obtain⟨i,S2⟩:=i;obtain⟨F,l,b,g,G⟩:=o;simp only at F l b g G |-;by_cases w:i<la.length
 ·have a:=au w
  have j:=nZ (nth la i);cases e:bN (nth la i)<;>rw[e]at j
  ·repeat'(first|refine gE ?_|(conv=>whnf);first|with_reducible refine CE (aa a) ?_|refine C9 j ?_)
   exact Z0 (λz=>[B z]) ((p7 a e).symm)
  have M:=aS e
  repeat'(first|refine gE ?_|(conv=>whnf);first|with_reducible refine CE (aa a) ?_|refine C9 j ?_)
  (conv=>whnf)
  refine CJ (ι:=Nat × List Int) (λk=>[(1,.H .one (cz .V la)),(5,.H .one (aH .own k.2)),(7,.H .one [I ((i:Nat):Int)]),(8,.H .one [I ((k.1:Nat):Int)])]) (λk=>k.1<=(nth la i).a2.toNat/\k.2=S2++lpgs (nth la i) k.1/\k.2.Nodup) (λk=>(nth la i).a2.toNat - k.1) ((0,S2)) ?_ (⟨X0 _,by simp[lpgs],g⟩) λk H=>?_
  ·exact wB
  obtain⟨k,p⟩:=k;obtain⟨H,n,c⟩:=H;simp only at H n c |-;have N:p.length=S2.length+k:=by grind [EZ]
  by_cases O:k<(nth la i).a2.toNat
  ·repeat'(first|refine gE ?_|(conv=>whnf);first|with_reducible (first|refine CE (aa a) ?_|refine Bf.D (λy=>?_) (λy=>?_))|refine CK (mW p _ ω) ⟨⟨rfl,dA _⟩,⟨rfl,rfl⟩,trivial⟩ ?_|refine CV cB (λr E=>by rw[V1.1 E];rfl) (by simp[bj,ed]) (by simp;omega) (by show _*8<=_;simp;omega) rfl ?_)
   all_goals first
    | exact Z0 (λz=>[B z]) ((kQ (S:=p) (by rw[n,l];exact Aw a O) (by assumption)).symm)
    | ((conv=>whnf)
       refine CF (k+1,p++[(nth la i).Q+(k:Nat)]) ⟨(by simp only;omega),(by simp only;rw[n,kY,O6]),lB c (by assumption)⟩ (by simp only;omega) ?_
       (repeat'(first|exact trivial|rfl|exact CM rfl (CM (Z0 (C.s dR.own) (by simp[rI])) trivial)|refine CM ?_ ?_)))
  obtain rfl:k=(nth la i).a2.toNat:=ω
  repeat'(first|refine gE ?_|(conv=>whnf);first|with_reducible refine CE (aa a) ?_)
  ((conv=>whnf);refine CF (i+1,p) ⟨(by simp only;omega),(by grind [pK]),(cX a b e),c,(by simp only;omega)⟩ (by simp only;omega) ?_;(exact wB))
 obtain rfl:i=la.length:=ω
 rw[X5]at b l
 repeat'(first|refine gE ?_|fail)
 exact Z0 (λz=>[B z]) ((sE d b ψ).symm)
def ins(S:List Int)(p:Int):List Int:=if p∈S then S else S++[p]
theorem Kg{p:Int} : ∀{S:List Int},p∈S->mput (fT S) p (.bool true)=fT S
 | x::S,h=>by
  simp only[fT,X6,mput];by_cases a:x=p
  ·rw[CD a,a]
  rw[CB a];have:=Kg (S:=S) ((List.mem_cons.1 h).resolve_left λe=>a e.symm)
  grind [fT]
theorem yl(S:List Int)(p:Int):fT (ins S p)=mput (fT S) p (.bool true):=by grind [Kg,uG,ins]
theorem P0(S:List Int)(p:Int):zzB 224 false [.val none [I p],.ptr [.m (fT S)]] [.val none [I p],.ptr [.m (fT (ins S p))]] .one [B (decide (p∉S))]:=by
 refine fM 12 [] [] [(0,0),(0,0)] Tryz.func224 rfl (λu q=>?_)
 repeat'(first|refine gP ?_|(conv=>whnf);first|refine Ml.mk (nv p S) ?_|refine Mu.mk (yl S p) ?_)
 refine CH rfl ?_ ?_
 ·grind
 exact wB
theorem qQ(sp:List aA)(la:List aC)(t:dB sp)(u:dP la):zzA 76 false [.val none (cE .V sp),.val none (cz .V la)] .one [B (bt sp la)]:=by
 have F:=t.1;have G:=u.1;refine fP 54 [(224,[0,2])] [] Tryz.func76 rfl ?_
 repeat'(first|refine gP ?_|fail)
 (conv=>whnf)
 refine CJ (ι:=Nat × List Int) (λi=>[(1,.H .one (cz .V la)),(5,.H .box [.m (fT i.2)]),(6,.fn 224 [5]),(14,.H .one (cE .V sp)),(15,.H .one [I (sp.length)]),(16,.H .one [I ((i.1:Nat):Int)])]) (λi=>i.1<=sp.length/\i.2=(sp.take i.1).map (·.Q)/\(sp.take i.1).all bi=true/\i.2.Nodup) (λi=>sp.length - i.1) ((0,[])) ?_ ψ λi p=>?_
 ·exact wB
 obtain⟨i,S⟩:=i;obtain⟨p,r,e,j⟩:=p;simp only at p r e j |-;by_cases w:i<sp.length
 ·have c:=au w
  have l:=jU (nth sp i);cases g:bi (nth sp i)<;>rw[g]at l
  ·repeat'(first|refine gE ?_|(conv=>whnf);first|with_reducible refine CE (aa c) ?_|refine C9 l ?_)
   exact Z0 (λz=>[B z]) ((rg c g).symm)
  repeat'(first|refine gE ?_|(conv=>whnf);first|with_reducible (first|refine CE (aa c) ?_|refine Bf.D (λy=>?_) (λy=>?_))|refine C9 l ?_|refine CL (P0 S _) (.inl rfl) ?_)
  all_goals first
   | exact Z0 (λz=>[B z]) ((kQ (S:=S) (by rw[r];exact GB c) ψ).symm)
   |(have a:(nth sp i).Q∉S:=by assumption
     (conv=>whnf)
     refine CF (i+1,ins S (nth sp i).Q) ⟨(by simp only;omega),(by simp only;unfold ins;rw[CB a,r,I6,c];simp),(cX c e g),(by simp only;unfold ins;rw[CB a];exact lB j a)⟩ (by simp only;omega) ?_
     (exact wA))
 obtain rfl:i=sp.length:=ω
 rw[X5]at e r
 repeat'(first|refine gE ?_|fail)
 (conv=>whnf)
 refine CJ (ι:=Nat × List Int) (λi=>[(5,.H .box [.m (fT i.2)]),(6,.fn 224 [5]),(31,.H .one (cz .V la)),(32,.H .one [I (la.length)]),(33,.H .one [I ((i.1:Nat):Int)])]) (λi=>i.1<=la.length/\i.2=pgs sp (la.take i.1)/\(la.take i.1).all bN=true/\i.2.Nodup) (λi=>la.length - i.1) ((0,S)) ?_ (⟨X0 _,by grind [pgs],rfl,j⟩) λi p=>?_
 ·exact wB
 obtain⟨i,S2⟩:=i;obtain⟨C,n,b,h⟩:=p;simp only at C n b h |-;by_cases w:i<la.length
 ·have c:=au w
  have l:=sq (nth la i);cases g:bN (nth la i)<;>rw[g]at l
  ·repeat'(first|refine gE ?_|(conv=>whnf);first|with_reducible refine CE (aa c) ?_|refine C9 l ?_)
   exact Z0 (λz=>[B z]) ((p7 c g).symm)
  have H:=aS g
  repeat'(first|refine gE ?_|(conv=>whnf);first|with_reducible refine CE (aa c) ?_|refine C9 l ?_)
  (conv=>whnf)
  refine CJ (ι:=Nat × List Int) (λk=>[(5,.H .box [.m (fT k.2)]),(6,.fn 224 [5]),(10,.H .box (aC.enc .V (nth la i))),(11,.H .one [I ((k.1:Nat):Int)]),(31,.H .one (cz .V la)),(32,.H .one [I (la.length)]),(33,.H .one [I ((i:Nat):Int)])]) (λk=>k.1<=(nth la i).a2.toNat/\k.2=S2++lpgs (nth la i) k.1/\k.2.Nodup) (λk=>(nth la i).a2.toNat - k.1) ((0,S2)) ?_ (⟨X0 _,by simp[lpgs],h⟩) λk E=>?_
  ·exact wB
  obtain⟨k,q⟩:=k;obtain⟨E,o,d⟩:=E;simp only at E o d |-;by_cases J:k<(nth la i).a2.toNat
  ·repeat'(first|refine gE ?_|(conv=>whnf);first|with_reducible refine Bf.D (λy=>?_) (λy=>?_)|refine CL (P0 q _) (.inl rfl) ?_)
   all_goals first
    | exact Z0 (λz=>[B z]) ((kQ (S:=q) (by rw[o,n];exact Aw c J) ψ).symm)
    |(have a:(nth la i).Q+(k:Nat)∉q:=by assumption
      (conv=>whnf)
      refine CF (k+1,ins q ((nth la i).Q+(k:Nat))) ⟨(by simp only;omega),(by simp only;unfold ins;rw[CB a,o,kY,O6]),(by simp only;unfold ins;rw[CB a];exact lB d a)⟩ (by simp only;omega) ?_
      (exact wA))
  obtain rfl:k=(nth la i).a2.toNat:=ω
  repeat'(first|refine gE ?_|fail)
  ((conv=>whnf);refine CF (i+1,q) ⟨(by simp only;omega),(by grind [pK]),(cX c b g),d⟩ (by simp only;omega) ?_;(exact wB))
 obtain rfl:i=la.length:=ω
 rw[X5]at b n
 repeat'(first|refine gE ?_|fail)
 exact Z0 (λz=>[B z]) ((sE e b ψ).symm)
theorem aI(h:bi s=true):0<=s.Q/\s.Q<=31/\0<=s.d/\s.d<=3:=by grind [bi]
theorem ce{k:Int}(h:0<=k/\k<=3):csz k=1\/csz k=2\/csz k=4\/csz k=8:=by
 obtain rfl|rfl|rfl|rfl:k=0\/k=1\/k=2\/k=3:=ω
 all_goals decide
def nj{x y:Int}(h:0<=x):x.tdiv y=x / y:=Int.tdiv_eq_ediv_of_nonneg h
def eE{x y:Int}(h:0<=x):x.tmod y=x % y:=Int.tmod_eq_emod_of_nonneg h
def S2(p:Int × Int):List C:=[I p.1,I p.2]
variable{b:Int}
theorem AO{p:Int × Int}(h:(a,b)=p):[I a,I b]=S2 p:=by subst h;rfl
theorem vD(s:aA)(a:Int)(k:np a):zzA 473 false [.val (some 3) (aA.enc .V s),.val none [I a]] (.tup [none,none]) (S2 (jg s a)):=by
 have c:=gN s;have l:=ee s.d;obtain⟨n,o⟩:=k;cases d:bi s<;>rw[d]at c
 ·refine fO 33 [(4,12,[23,24,25,26,27,28,29,30,31,32,4,5])] Tryz.func473 rfl ?_ (.inr ⟨trivial,trivial,trivial⟩)
  repeat'(first|refine gP ?_|(conv=>whnf);first|refine C9 c ?_)
  exact AO (by grind [jg,dd])
 have h:=aI d;have i:=ce ⟨h.2.2.1,h.2.2.2⟩;by_cases g:16*s.Q<=a/\a<=16*s.Q+15
 ·have j:0<=a:=ω
  refine fO 33 [(4,12,[23,24,25,26,27,28,29,30,31,32,4,5])] Tryz.func473 rfl ?_ (.inr ⟨trivial,trivial,trivial⟩)
  repeat'(first|refine gE ?_|(conv=>whnf);first|with_reducible refine Bf.N (λb=>?_) (λb=>?_)|refine C9 c ?_|refine C9 l ?_|refine CP (by decide) ?_|refine CP ω ?_|refine CN ((Z0 _ (nj j)).trans (fC ω ω)) ?_|refine CT (eE j) ?_|refine CN ((Z0 _ (nj ω)).trans (fC (by rcases i with e|e|e|e<;>rw[e]<;>omega) (by rcases i with e|e|e|e<;>rw[e]<;>omega))) ?_|refine CT (eE ω) ?_)
  all_goals grind [AO,jg,dd]
 refine fO 33 [(4,12,[23,24,25,26,27,28,29,30,31,32,4,5])] Tryz.func473 rfl ?_ (.inr ⟨trivial,trivial,trivial⟩)
 repeat'(first|refine gP ?_|(conv=>whnf);first|with_reducible (first|refine Bf.D (λb=>?_) (λb=>?_)|refine Bf.N (λb=>?_) (λb=>?_))|refine C9 c ?_|refine CP (by decide) ?_|refine CN ((Z0 _ (nj ω)).trans (fC ω ω)) ?_)
 all_goals first
  |exact AO (by unfold jg dd;rw[d,W0 g];rfl)
  |(exfalso;omega)
theorem G6(s:aA)(a:Int):zzA 379 false [.val (some 3) (aA.enc .V s),.val none [I a]] (.tup [none,none]) (S2 (jg s a)):=by
 have b:=jU s;have j:=fI s.d;cases c:bi s<;>rw[c]at b
 ·refine fO 38 [(4,12,[28,29,30,31,32,33,34,35,36,37,4,5])] Tryz.func379 rfl ?_ (.inr ⟨trivial,trivial,trivial⟩)
  repeat'(first|refine gP ?_|(conv=>whnf);first|refine C9 b ?_)
  exact AO (by grind [jg,dd])
 have h:=aI c;have i:=ce ⟨h.2.2.1,h.2.2.2⟩;by_cases d:16*s.Q<=a/\a<=16*s.Q+15
 ·refine fO 38 [(4,12,[28,29,30,31,32,33,34,35,36,37,4,5])] Tryz.func379 rfl ?_ (.inr ⟨trivial,trivial,trivial⟩)
  repeat'(first|refine gE ?_|(conv=>whnf);first|with_reducible refine Bf.D (λg=>?_) (λg=>?_)|refine C9 b ?_|refine C9 j ?_|refine C9 (aN _ _ _) ?_|refine CP ω ?_|refine CN ((Z0 _ (nj ω)).trans (fC (by rcases i with e|e|e|e<;>rw[e]<;>omega) (by rcases i with e|e|e|e<;>rw[e]<;>omega))) ?_|refine CT (eE ω) ?_)
  grind [AO,jg,dd]
 refine fO 38 [(4,12,[28,29,30,31,32,33,34,35,36,37,4,5])] Tryz.func379 rfl ?_ (.inr ⟨trivial,trivial,trivial⟩)
 repeat'(first|refine gE ?_|(conv=>whnf);first|with_reducible refine Bf.D (λg=>?_) (λg=>?_)|refine C9 b ?_|refine C9 (aN _ _ _) ?_)
 all_goals exact AO (by unfold jg dd;rw[c,W0 d];rfl)
def qb(b i:Int):zzA 547 false [.val none [I b],.val none [I i]] .one [B (decide (0<=b/\0<=i/\i<=15))]:=by
 refine fO 11 [] Tryz.func547 rfl ?_
 repeat'(first|refine gP ?_|(conv=>whnf);first|with_reducible refine Bf.D (λa=>?_) (λa=>?_)|refine C9 (aJ _ 0 15) ?_)
 all_goals exact Z0 (λz=>[B z]) ((by first|(symm;exact W0 ω)|exact decide_eq_decide.2 ω))
def tT(b i:Int):zzA 457 false [.val none [I b],.val none [I i]] .one [B (decide (0<=b/\0<=i/\i<=15))]:=by
 refine fO 11 [] Tryz.func457 rfl ?_
 repeat'(first|refine gP ?_|(conv=>whnf);first|with_reducible refine Bf.D (λa=>?_) (λa=>?_)|refine C9 (aN _ 0 15) ?_)
 all_goals exact Z0 (λz=>[B z]) ((by first|(symm;exact W0 ω)|exact decide_eq_decide.2 ω))
theorem Pt{i:Int}(a:0<=b/\b<=9223372036854775807)(e:0<=i/\i<=15):b.fdiv (2 ^ min i.toNat IntKind.i64.bits)=b / 2 ^ i.toNat/\0<=b / 2 ^ i.toNat/\b / 2 ^ i.toNat<=9223372036854775807:=by
 have d:min i.toNat IntKind.i64.bits=i.toNat:=Nat.min_eq_left (show i.toNat<=64 by omega);rw[d];have c:(0:Int)<=2 ^ i.toNat:=ψ
 refine⟨Int.fdiv_eq_ediv_of_nonneg _ c,Int.ediv_nonneg a.1 c,?_⟩;have:=Int.ediv_le_self (2 ^ i.toNat:Int) a.1;omega
theorem y6{i:Int}(a:0<=b)(c:0<=i/\i<=15):((((b / 2 ^ i.toNat).toNat &&& (1:Int).toNat:Nat):Int) == 1)=aZ b i:=by
 have d:(0:Int)<=b / 2 ^ i.toNat:=Int.ediv_nonneg a ψ
 grind [aZ]
theorem iM(b i:Int)(c:b<=9223372036854775807):zzA 474 false [.val none [I b],.val none [I i]] .one [B (aZ b i)]:=by
 by_cases h:0<=b/\0<=i/\i<=15
 ·obtain⟨d,g⟩:=Pt (b:=b) (i:=i) ⟨h.1,c⟩ h.2
  have j:IntKind.u64.wrap i=i:=by grind [Go.IntKind.wrap,Go.IntKind.bits]
  refine fO 16 [] Tryz.func474 rfl ?_
  repeat'(first|refine gE ?_|(conv=>whnf);first|with_reducible refine Bf.D (λa=>?_) (λa=>?_)|refine C9 (qb _ _) ?_|refine CP ω ?_|refine CN j ?_|refine CT d ?_|refine CN (and64 g ⟨by decide,by decide⟩) ?_)
  grind [y6]
 refine fO 16 [] Tryz.func474 rfl ?_
 repeat'(first|refine gE ?_|(conv=>whnf);first|with_reducible refine Bf.D (λa=>?_) (λa=>?_)|refine C9 (qb _ _) ?_)
 all_goals exact Z0 (λz=>[B z]) ((by unfold aZ;symm;exact W0 λe=>h ⟨e.1,e.2.1,e.2.2.1⟩))
theorem nB(b i:Int)(c:b<=9223372036854775807):zzA 380 false [.val none [I b],.val none [I i]] .one [B (aZ b i)]:=by
 by_cases h:0<=b/\0<=i/\i<=15
 ·obtain⟨d,g⟩:=Pt (b:=b) (i:=i) ⟨h.1,c⟩ h.2
  refine fO 15 [] Tryz.func380 rfl ?_
  repeat'(first|refine gE ?_|(conv=>whnf);first|with_reducible refine Bf.D (λa=>?_) (λa=>?_)|refine C9 (tT _ _) ?_|refine CP ω ?_|refine CT d ?_|refine CN (and64 g ⟨by decide,by decide⟩) ?_)
  grind [y6]
 refine fO 15 [] Tryz.func380 rfl ?_
 repeat'(first|refine gE ?_|(conv=>whnf);first|with_reducible refine Bf.D (λa=>?_) (λa=>?_)|refine C9 (tT _ _) ?_)
 all_goals exact Z0 (λz=>[B z]) ((by unfold aZ;symm;exact W0 λe=>h ⟨e.1,e.2.1,e.2.2.1⟩))
theorem cF{l:aC}(h:bN l=true):9<=l.q/\l.q<=1000/\0<=l.Q/\l.Q<=31:=by grind [bN]
theorem qD(l:aC)(a:Int):zzA 475 false [.val (some 3) (aC.enc .V l),.val none [I a]] .one [B (bG l a)]:=by
 have b:=nZ l;cases c:bN l<;>rw[c]at b
 ·refine fO 24 [] Tryz.func475 rfl ?_
  repeat'(first|refine gP ?_|(conv=>whnf);first|refine C9 b ?_)
  exact Z0 (λz=>[B z]) ((by grind [bG]))
 have e:=cF c;refine fO 24 [] Tryz.func475 rfl ?_
 repeat'(first|refine gP ?_|(conv=>whnf);first|with_reducible refine Bf.D (λd=>?_) (λd=>?_)|refine C9 b ?_)
 all_goals exact Z0 (λz=>[B z]) ((by unfold bG;rw[c,Bool.true_and];first|(symm;exact W0 ω)|exact decide_eq_decide.2 ω))
theorem qK(l:aC)(a:Int):zzA 381 false [.val (some 3) (aC.enc .V l),.val none [I a]] .one [B (bG l a)]:=by
 have b:=sq l;cases c:bN l<;>rw[c]at b
 ·refine fO 21 [] Tryz.func381 rfl ?_
  repeat'(first|refine gP ?_|(conv=>whnf);first|refine C9 b ?_)
  exact Z0 (λz=>[B z]) ((by grind [bG]))
 have e:=cF c;refine fO 21 [] Tryz.func381 rfl ?_
 repeat'(first|refine gP ?_|(conv=>whnf);first|with_reducible refine Bf.D (λd=>?_) (λd=>?_)|refine C9 b ?_|refine C9 (aN _ _ _) ?_)
 grind [bG]
theorem tZ(l:aC)(a:Int)(h:bG l a=true):zzA 476 false [.val (some 3) (aC.enc .V l),.val none [I a]] .one [I (a - 16*l.Q)]:=by
 have b:=qD l a;rw[h]at b;unfold bG at h;simp only[I0,C0]at h;have c:=cF h.1;refine fO 14 [] Tryz.func476 rfl ?_
 repeat'(first|refine gP ?_|(conv=>whnf);first|refine C9 b ?_)
 grind
theorem uC(l:aC)(a:Int)(h:bG l a=true):zzA 382 false [.val (some 3) (aC.enc .V l),.val none [I a]] .one [I (a - 16*l.Q)]:=by
 have b:=qK l a;rw[h]at b;unfold bG at h;simp only[I0,C0]at h;have c:=cF h.1;refine fO 14 [] Tryz.func382 rfl ?_
 repeat'(first|refine gP ?_|(conv=>whnf);first|refine C9 b ?_)
 grind
variable{m:aM}
theorem pW(a:i<m.U.length)(h:gU m i=false):bR m=false:=by grind [cC,bR]
theorem zf(h:¬(1<=m.U.length/\m.U.length<=4/\m.y.length=m.U.length)):bR m=false:=by grind [bR]
theorem yY(h1:1<=m.U.length/\m.U.length<=4/\m.y.length=m.U.length)(a:df m.U.length (gU m)=true):bR m=decide (bC m m.U.length<=30):=by grind [bR]
theorem lV(m:aM)(h:aM.sml m):zzA 111 false [.val (some 2) (aM.enc .V m)] .one [B (bR m)]:=by
 have r:m.U.length<=1048576:=h.1.1;have t:m.y.length<=1048576:=h.2.1;by_cases u:1<=m.U.length/\m.U.length<=4/\m.y.length=m.U.length
 ·refine fO 92 [(19,15,[75,76,77,78,79,80,81,82,83,84,85,86,87,88,89])] Tryz.func111 rfl ?_
  repeat'(first|refine gB ?_|(conv=>whnf);first|with_reducible (first|refine Bf.D (λa=>?_) (λa=>?_)|refine Bf.N (λa=>?_) (λa=>?_))|refine C9 (aJ _ 1 4) ?_)
  (conv=>whnf)
  refine CJ (ι:=Nat) (λi=>[(1,.H .box (aM.enc .V m)),(3,.H .one [I (m.U.length)]),(4,.H .one [I (bC m i)]),(5,.H .one [I ((i:Nat):Int)])]) (λi=>i<=m.U.length/\df i (gU m)=true/\0<=bC m i/\bC m i<=2097152*i) (λi=>m.U.length - i) (0) ?_ (⟨X0 _,rfl,by simp[bC],by simp[bC]⟩) λi n=>?_
  ·exact wB
  obtain⟨n,w,F,G⟩:=n;by_cases j:i<m.U.length
  ·have l:=au j
   have o:=au (xs:=m.y) (i:=i) ω;have y:(nth m.U i).length<=1048576:=(h.1.2 _ (ar j)).1;have C:(nth m.y i).length<=1048576:=h.2.2 _ ψ
   repeat'(first|refine gE ?_|fail)
   (conv=>whnf)
   refine CJ (ι:=Nat) (λk=>[(1,.H .box (aM.enc .V m)),(3,.H .one [I (m.U.length)]),(4,.H .one [I (bC m i)]),(5,.H .one [I ((i:Nat):Int)]),(6,.H .one [I ((k:Nat):Int)])]) (λk=>k<=(nth m.U i).length/\((nth m.U i).take k).all (oq m.U.length)=true) (λk=>(nth m.U i).length - k) (0) ?_ ψ λk p=>?_
   ·exact wB
   obtain⟨p,q⟩:=p;by_cases E:k<(nth m.U i).length
   ·have c:=au E
    repeat'(first|refine gE ?_|(conv=>whnf);first|with_reducible (first|refine CE (aa l) ?_|refine CE (aa c) ?_|refine Bf.D (λa=>?_) (λa=>?_))|refine C9 (aJ _ 0 _) ?_)
    all_goals first
     | exact Z0 (λz=>[B z]) ((pW j (by unfold gU;rw[gy c (by unfold oq;exact W0 ω)];rfl)).symm)
     | ((conv=>whnf);refine CF (k+1) ⟨ω,cX c q (by unfold oq;exact O0 ω)⟩ ω ?_;(exact wB))
   have H:=ow ω q
   repeat'(first|refine gE ?_|(conv=>whnf);first|with_reducible refine CE (aa l) ?_)
   (conv=>whnf)
   refine CJ (ι:=Nat) (λb=>[(1,.H .box (aM.enc .V m)),(3,.H .one [I (m.U.length)]),(4,.H .one [I (bC m i)]),(5,.H .one [I ((i:Nat):Int)]),(8,.H .one [I ((b:Nat):Int)])]) (λb=>b<=(nth m.y i).length/\((nth m.y i).take b).all Qu=true) (λb=>(nth m.y i).length - b) (0) ?_ ψ λb e=>?_
   ·exact wB
   obtain⟨e,ak2⟩:=e;by_cases lk2:b<(nth m.y i).length
   ·have c:=au lk2
    repeat'(first|refine gE ?_|(conv=>whnf);first|with_reducible (first|refine CE (aa o) ?_|refine CE (aa c) ?_|refine Bf.D (λa=>?_) (λa=>?_)))
    all_goals first
     | exact Z0 (λz=>[B z]) ((pW j (by unfold gU;rw[gy c (by unfold Qu;exact W0 ω)];simp)).symm)
     | ((conv=>whnf);refine CF (b+1) ⟨ω,cX c ak2 (by unfold Qu;exact O0 ω)⟩ ω ?_;(exact wB))
   have ae2:=ow ω ak2;have g:bC m (i+1)=bC m i+((nth m.U i).length+(nth m.y i).length):=rfl;have d:bC m (i+1)=bC m i+(nth m.U i).length+(nth m.y i).length:=by rw[g];omega
   repeat'(first|refine gE ?_|(conv=>whnf);first|with_reducible (first|refine CE (aa l) ?_|refine CE (aa o) ?_))
   ((conv=>whnf);refine CF (i+1) ⟨ω,bU w (by grind [gU]),ω,ω⟩ ω ?_)
   rw[d];exact wB
  obtain rfl:i=m.U.length:=ω
  repeat'(first|refine gE ?_|fail)
  grind [yY]
 refine fO 92 [(19,15,[75,76,77,78,79,80,81,82,83,84,85,86,87,88,89])] Tryz.func111 rfl ?_
 repeat'(first|refine gP ?_|(conv=>whnf);first|with_reducible (first|refine Bf.D (λa=>?_) (λa=>?_)|refine Bf.N (λa=>?_) (λa=>?_))|refine C9 (aJ _ 1 4) ?_)
 all_goals first
  | exact Z0 (λz=>[B z]) ((zf u).symm)
  |(exfalso;omega)
theorem vC(m:aM)(g:aM.sml m):zzA 78 false [.val (some 2) (aM.enc .V m)] .one [B (bR m)]:=by
 have q:m.U.length<=1048576:=g.1.1;have r:m.y.length<=1048576:=g.2.1;by_cases t:1<=m.U.length/\m.U.length<=4/\m.y.length=m.U.length
 ·refine fO 82 [(20,15,[64,65,66,67,68,69,70,71,72,73,74,75,76,77,78])] Tryz.func78 rfl ?_
  repeat'(first|refine gB ?_|(conv=>whnf);first|with_reducible (first|refine Bf.D (λa=>?_) (λa=>?_)|refine Bf.N (λa=>?_) (λa=>?_))|refine C9 (aN _ 1 4) ?_)
  (conv=>whnf)
  refine CJ (ι:=Nat) (λi=>[(1,.H .box (aM.enc .V m)),(3,.H .one [I (m.U.length)]),(4,.H .one [I (bC m i)]),(25,.H .one [I (m.U.length)]),(26,.H .one [I ((i:Nat):Int)])]) (λi=>i<=m.U.length/\df i (gU m)=true/\0<=bC m i/\bC m i<=2097152*i) (λi=>m.U.length - i) (0) ?_ (⟨X0 _,rfl,by simp[bC],by simp[bC]⟩) λi n=>?_
  ·exact wB
  obtain⟨n,u,E,F⟩:=n;by_cases h:i<m.U.length
  ·have j:=au h
   have l:=au (xs:=m.y) (i:=i) ω;have w:(nth m.U i).length<=1048576:=(g.1.2 _ (ar h)).1;have y:(nth m.y i).length<=1048576:=g.2.2 _ ψ
   repeat'(first|refine gE ?_|(conv=>whnf);first|with_reducible refine CE (aa j) ?_)
   (conv=>whnf)
   refine CJ (ι:=Nat) (λk=>[(1,.H .box (aM.enc .V m)),(3,.H .one [I (m.U.length)]),(4,.H .one [I (bC m i)]),(5,.H .one [I ((i:Nat):Int)]),(25,.H .one [I (m.U.length)]),(26,.H .one [I ((i:Nat):Int)]),(33,.H .one (cL .V (nth m.U i))),(34,.H .one [I ((nth m.U i).length)]),(35,.H .one [I ((k:Nat):Int)])]) (λk=>k<=(nth m.U i).length/\((nth m.U i).take k).all (oq m.U.length)=true) (λk=>(nth m.U i).length - k) (0) ?_ ψ λk o=>?_
   ·exact wB
   obtain⟨o,p⟩:=o;by_cases C:k<(nth m.U i).length
   ·have c:=au C
    repeat'(first|refine gE ?_|(conv=>whnf);first|with_reducible (first|refine CE (aa j) ?_|refine CE (aa c) ?_|refine Bf.D (λa=>?_) (λa=>?_))|refine C9 (aN _ 0 _) ?_)
    all_goals first
     | exact Z0 (λz=>[B z]) ((pW h (by unfold gU;rw[gy c (by unfold oq;exact W0 ω)];rfl)).symm)
     | ((conv=>whnf);refine CF (k+1) ⟨ω,cX c p (by unfold oq;exact O0 ω)⟩ ω ?_;(exact wB))
   have G:=ow ω p
   repeat'(first|refine gE ?_|(conv=>whnf);first|with_reducible (first|refine CE (aa j) ?_|refine CE (aa l) ?_))
   (conv=>whnf)
   refine CJ (ι:=Nat) (λb=>[(1,.H .box (aM.enc .V m)),(3,.H .one [I (m.U.length)]),(4,.H .one [I (bC m i)]),(5,.H .one [I ((i:Nat):Int)]),(25,.H .one [I (m.U.length)]),(26,.H .one [I ((i:Nat):Int)]),(55,.H .one (aH .V (nth m.y i))),(56,.H .one [I ((nth m.y i).length)]),(57,.H .one [I ((b:Nat):Int)])]) (λb=>b<=(nth m.y i).length/\((nth m.y i).take b).all Qu=true) (λb=>(nth m.y i).length - b) (0) ?_ ψ λb d=>?_
   ·exact wB
   obtain⟨d,ak2⟩:=d;by_cases lk2:b<(nth m.y i).length
   ·have c:=au lk2
    repeat'(first|refine gE ?_|(conv=>whnf);first|with_reducible (first|refine CE (aa l) ?_|refine CE (aa c) ?_|refine Bf.D (λa=>?_) (λa=>?_)))
    all_goals first
     | exact Z0 (λz=>[B z]) ((pW h (by unfold gU;rw[gy c (by unfold Qu;exact W0 ω)];simp)).symm)
     | ((conv=>whnf);refine CF (b+1) ⟨ω,cX c ak2 (by unfold Qu;exact O0 ω)⟩ ω ?_;(exact wB))
   have ae2:=ow ω ak2;have e:bC m (i+1)=bC m i+((nth m.U i).length+(nth m.y i).length):=rfl
   repeat'(first|refine gE ?_|(conv=>whnf);first|with_reducible (first|refine CE (aa j) ?_|refine CE (aa l) ?_))
   ((conv=>whnf);refine CF (i+1) ⟨ω,bU u (by grind [gU]),ω,ω⟩ ω ?_)
   rw[e];exact wB
  obtain rfl:i=m.U.length:=ω
  repeat'(first|refine gE ?_|fail)
  grind [yY]
 refine fO 82 [(20,15,[64,65,66,67,68,69,70,71,72,73,74,75,76,77,78])] Tryz.func78 rfl ?_
 repeat'(first|refine gP ?_|(conv=>whnf);first|with_reducible (first|refine Bf.D (λa=>?_) (λa=>?_)|refine Bf.N (λa=>?_) (λa=>?_))|refine C9 (aN _ 1 4) ?_)
 all_goals first
  | exact Z0 (λz=>[B z]) ((zf t).symm)
  |(exfalso;omega)
def AE(h:dd s a=false):S2 (jg s a)=[I (-1),I (-1)]:=by
 unfold jg;rw[h];rfl
def xL(h:dd s a=true):S2 (jg s a)=[I ((a - 16*s.Q) / csz s.d),I ((a - 16*s.Q) % csz s.d)]:=by
 unfold jg;rw[h];rfl
theorem tL(h:dd s a=true):bi s=true/\0<=(a - 16*s.Q) / csz s.d/\(a - 16*s.Q) / csz s.d<=15:=by
 unfold dd at h;simp only[I0,C0]at h;have b:=aI h.1
 grind [ce]
def nQ(b:i<sp.length)(h:dd (nth sp i) a=true)(c:∀(j:Nat)(z:aA),j<i->sp[j]? = some z->dd z a=false):denotes sp la a=oM i (nth sp i) a:=by
 unfold denotes;rw[w8 (pr:=(dd · a)) (au b) h c]
def m0(b:sp.length<=n)(c:∀(j:Nat)(z:aA),j<n->sp[j]? = some z->dd z a=false)(d:i<la.length)(h:bG (nth la i) a=true)(e:∀(j:Nat)(z:aC),j<i->la[j]? = some z->bG z a=false) :
  denotes sp la a = ⟨3,i,0,a - 16*(nth la i).Q⟩:=by
 unfold denotes;rw[BN (pr:=(dd · a)) b c,w8 (pr:=(bG · a)) (au d) h e]
theorem xM(b:sp.length<=n)(c:∀(j:Nat)(z:aA),j<n->sp[j]? = some z->dd z a=false)(d:la.length<=k)(e:∀(j:Nat)(z:aC),j<k->la[j]? = some z->bG z a=false):denotes sp la a = ⟨0,0,0,0⟩:=by grind [BN,denotes]
theorem og(sp:List aA)(la:List aC)(a:Int)(d:dB sp)(e:dP la)(g:bt sp la=true)(C:np a):zzA 362 false [.val none (cE .V sp),.val none (cz .V la),.val none [I a]] .agg (jB.enc .own (denotes sp la a)):=by
 have E:=d.1;have F:=e.1;have p:=mr sp la d e;rw[g]at p;refine fO 67 [] Tryz.func362 rfl ?_ (.inr (jB.enc_fr _))
 repeat'(first|refine gP ?_|(conv=>whnf);first|refine C9 p ?_)
 (conv=>whnf)
 refine CJ (ι:=Nat) (λi=>[(0,.H .one (cE .V sp)),(1,.H .one (cz .V la)),(2,.H .one [I (a)]),(6,.H .box ([I 0,I 0,I 0,I 0])),(7,.H .one [I ((i:Nat):Int)])]) (λi=>i<=sp.length/\∀(j:Nat)(z:aA),j<i->sp[j]? = some z->dd z a=false) (λi=>sp.length - i) (0) ?_ ψ λi q=>?_
 ·exact wB
 obtain⟨q,l⟩:=q;by_cases r:i<sp.length
 ·have h:=au r
  have b:=vD (nth sp i) a C;cases c:dd (nth sp i) a with
  | false=>
   rw[AE c]at b
   repeat'(first|refine gE ?_|(conv=>whnf);first|with_reducible (first|refine CE (aa h) ?_|refine Bf.D (λo=>?_) (λo=>?_))|refine C9 b ?_)
   ((conv=>whnf);refine CF (i+1) ψ ω ?_;(exact wB))
  | true=>
   rw[xL c]at b;obtain⟨G,H,J⟩:=tL c;have t:=iM (nth sp i).a9 ((a - 16*(nth sp i).Q) / csz (nth sp i).d) (fV G).2;cases u:aZ (nth sp i).a9 ((a - 16*(nth sp i).Q) / csz (nth sp i).d)<;>rw[u]at t
   all_goals
    repeat'(first|refine gE ?_|(conv=>whnf);first|with_reducible (first|refine CE (aa h) ?_|refine Bf.D (λo=>?_) (λo=>?_))|refine C9 b ?_|refine C9 t ?_)
    all_goals(rw[nQ r c l];unfold oM;rw[u];rfl)
 repeat'(first|refine gE ?_|fail)
 (conv=>whnf)
 refine CJ (ι:=Nat) (λk=>[(1,.H .one (cz .V la)),(2,.H .one [I (a)]),(6,.H .box ([I 0,I 0,I 0,I 0])),(11,.H .one [I ((k:Nat):Int)])]) (λk=>k<=la.length/\∀(j:Nat)(z:aC),j<k->la[j]? = some z->bG z a=false) (λk=>la.length - k) (0) ?_ ψ λk w=>?_
 ·exact wB
 obtain⟨w,y⟩:=w;by_cases B:k<la.length
 ·have h:=au B
  have b:=qD (nth la k) a;cases c:bG (nth la k) a<;>rw[c]at b
  ·repeat'(first|refine gE ?_|(conv=>whnf);first|with_reducible refine CE (aa h) ?_|refine C9 b ?_)
   ((conv=>whnf);refine CF (k+1) ψ ω ?_;(exact wB))
  repeat'(first|refine gE ?_|(conv=>whnf);first|with_reducible refine CE (aa h) ?_|refine C9 b ?_|refine C9 (tZ (nth la k) a c) ?_)
  rw[m0 (n:=i) ω l B c y];rfl
 repeat'(first|refine gE ?_|fail)
 rw[xM (n:=i) (k:=k) ω l ω y];rfl
theorem sf(sp:List aA)(la:List aC)(a:Int)(e:dB sp)(g:dP la):zzA 235 false [.val none (cE .V sp),.val none (cz .V la),.val none [I a]] .agg (jB.enc .own (denotes sp la a)):=by
 have y:=e.1;have B:=g.1;refine fO 56 [] Tryz.func235 rfl ?_ (.inr (jB.enc_fr _))
 repeat'(first|refine gP ?_|fail)
 (conv=>whnf)
 refine CJ (ι:=Nat) (λi=>[(1,.H .one (cz .V la)),(2,.H .one [I (a)]),(6,.H .box ([I 0,I 0,I 0,I 0])),(14,.H .one (cE .V sp)),(15,.H .one [I (sp.length)]),(16,.H .one [I ((i:Nat):Int)])]) (λi=>i<=sp.length/\∀(j:Nat)(z:aA),j<i->sp[j]? = some z->dd z a=false) (λi=>sp.length - i) (0) ?_ ψ λi o=>?_
 ·exact wB
 obtain⟨o,h⟩:=o;by_cases p:i<sp.length
 ·have d:=au p
  have b:=G6 (nth sp i) a;cases c:dd (nth sp i) a with
  | false=>
   rw[AE c]at b
   repeat'(first|refine gE ?_|(conv=>whnf);first|with_reducible (first|refine CE (aa d) ?_|refine Bf.D (λl=>?_) (λl=>?_))|refine C9 b ?_)
   ((conv=>whnf);refine CF (i+1) ψ ω ?_;(exact wB))
  | true=>
   rw[xL c]at b;obtain⟨C,E,F⟩:=tL c;have q:=nB (nth sp i).a9 ((a - 16*(nth sp i).Q) / csz (nth sp i).d) (fV C).2;cases r:aZ (nth sp i).a9 ((a - 16*(nth sp i).Q) / csz (nth sp i).d)<;>rw[r]at q
   all_goals
    repeat'(first|refine gE ?_|(conv=>whnf);first|with_reducible (first|refine CE (aa d) ?_|refine Bf.D (λl=>?_) (λl=>?_))|refine C9 b ?_|refine C9 q ?_)
    all_goals(rw[nQ p c h];unfold oM;rw[r];rfl)
 repeat'(first|refine gE ?_|fail)
 (conv=>whnf)
 refine CJ (ι:=Nat) (λk=>[(2,.H .one [I (a)]),(6,.H .box ([I 0,I 0,I 0,I 0])),(39,.H .one (cz .V la)),(40,.H .one [I (la.length)]),(41,.H .one [I ((k:Nat):Int)])]) (λk=>k<=la.length/\∀(j:Nat)(z:aC),j<k->la[j]? = some z->bG z a=false) (λk=>la.length - k) (0) ?_ ψ λk t=>?_
 ·exact wB
 obtain⟨t,u⟩:=t;by_cases w:k<la.length
 ·have d:=au w
  have b:=qK (nth la k) a;cases c:bG (nth la k) a<;>rw[c]at b
  ·repeat'(first|refine gE ?_|(conv=>whnf);first|with_reducible refine CE (aa d) ?_|refine C9 b ?_)
   ((conv=>whnf);refine CF (k+1) ψ ω ?_;(exact wB))
  repeat'(first|refine gE ?_|(conv=>whnf);first|with_reducible refine CE (aa d) ?_|refine C9 b ?_|refine C9 (uC (nth la k) a c) ?_)
  rw[m0 (n:=i) ω h w c u];rfl
 repeat'(first|refine gE ?_|fail)
 rw[xM (n:=i) (k:=k) ω h ω u];rfl
section
variable{α:Type}
def G4(ag:Option Nat)(e:α->List C)(pr:α->Bool)(xs:List α):List (Option Nat × List C)->Kd->List C->Prop:=λL k rcs=>∃x,x∈xs/\L=[(ag,e x)]/\k=.one/\rcs=[B (pr x)]
end
def vZ(xs:List aB)(pr:aB->Bool)(n:xs.length<=9223372036854775807):zzA 487 false [.val none (bv .V xs),.fn (rW Tryz.prog (G4 (some 2) (aB.enc .V) pr xs))] .one [I (cU pr xs)]:=by
 refine fO 19 [] Tryz.func487 rfl ?_
 repeat'(first|refine gP ?_|fail)
 (conv=>whnf)
 refine CJ (ι:=Nat) (λi=>[(0,.H .one (bv .V xs)),(1,.fv (rW Tryz.prog (G4 (some 2) (aB.enc .V) pr xs))),(7,.H .one [I xs.length]),(8,.H .one [I (i:Nat)])]) (λi=>i<=xs.length/\∀(j:Nat)(z:aB),j<i->xs[j]? = some z->pr z=false) (λi=>xs.length - i) 0 ?_ ⟨X0 _,λj z h=>ω⟩ λi e=>?_
 ·exact wB
 obtain⟨e,b⟩:=e;by_cases c:i<xs.length
 ·obtain⟨y,a⟩ : ∃y,xs[i]? = some y:=⟨_,X2 c⟩
  repeat'(first|refine gE ?_|(conv=>whnf);first|with_reducible refine CE (aa a) ?_|refine Fv.mk (k:=.one) (rcs:=[B (pr y)]) ⟨y,O2 a,rfl,rfl,rfl⟩ ?_|refine Bf.P (λl=>?_) (λl=>?_))
  ·exact Z0 (λz=>[I z]) (dD a ‹_› b).symm
  (conv=>whnf)
  refine CF (i+1) ⟨ω,λj z h d=>?_⟩ ω ?_
  ·rcases Nat.lt_or_ge j i with g|g
   ·exact b j z g d
   obtain rfl:j=i:=ω
   rw[a]at d;cases d;assumption
  exact wB
 repeat'(first|refine gE ?_|fail)
 exact Z0 (λz=>[I z]) (gh ω b).symm
theorem rE(xs:List aB)(pr:aB->Bool)(a:xs.length<=9223372036854775807):zzA 376 false [.val none (bv .V xs),.fn (rW Tryz.prog (G4 (some 2) (aB.enc .V) pr xs))] .one [B (xs.any pr)]:=by
 refine fO 9 [] Tryz.func376 rfl ?_
 repeat'(first|refine gP ?_|(conv=>whnf);first|refine C9 (vZ xs pr a) ?_)
 grind [mT]
def vB(r:aB)(page:Int):zzA 377 false [.val (some 2) (aB.enc .V r),.ptr [I page]] .one [B (vS page r)]:=by
 refine fO 17 [] Tryz.func377 rfl ?_
 repeat'(first|refine gP ?_|(conv=>whnf);first|with_reducible refine Bf.D (λa=>?_) (λa=>?_)|refine CN rfl ?_)
 all_goals exact Z0 (λz=>[B z]) (by unfold vS;first|(rw[O0 (by assumption:r.At<=page)];simp;done)|(rw[W0 (by assumption:¬r.At<=page)];rfl))
def zM(xs:List aB)(page:Int)(a:xs.length<=9223372036854775807):zzA 228 false [.val none (bv .V xs),.val none [I page]] .one [B (xs.any (vS page))]:=by
 refine fO 8 [] Tryz.func228 rfl ?_
 repeat'(first|refine gP ?_|(conv=>whnf);first|refine Cq.mk (G4 (some 2) (aB.enc .V) (vS page) xs) (vB default page).has (λL k rcs b=>?_) ?_|refine C9 (rE xs (vS page) a) ?_)
 ·obtain⟨x,-,rfl,rfl,rfl⟩:=b
  exact vB x page
 rfl
theorem vQ(xs:List aR)(pr:aR->Bool)(g:xs.length<=9223372036854775807):zzA 549 false [.val none (cY .V xs),.fn (rW Tryz.prog (G4 (some 3) (aR.enc .V) pr xs))] .one [I (cU pr xs)]:=by
 refine fO 19 [] Tryz.func549 rfl ?_
 repeat'(first|refine gP ?_|fail)
 (conv=>whnf)
 refine CJ (ι:=Nat) (λi=>[(0,.H .one (cY .V xs)),(1,.fv (rW Tryz.prog (G4 (some 3) (aR.enc .V) pr xs))),(7,.H .one [I xs.length]),(8,.H .one [I (i:Nat)])]) (λi=>i<=xs.length/\∀(j:Nat)(z:aR),j<i->xs[j]? = some z->pr z=false) (λi=>xs.length - i) 0 ?_ ψ λi b=>?_
 ·exact wB
 obtain⟨b,d⟩:=b;by_cases a:i<xs.length
 ·obtain⟨y,c⟩ : ∃y,xs[i]? = some y:=⟨_,X2 a⟩
  repeat'(first|refine gE ?_|(conv=>whnf);first|with_reducible refine CE (aa c) ?_|refine Fv.mk (k:=.one) (rcs:=[B (pr y)]) ⟨y,O2 c,rfl,rfl,rfl⟩ ?_|refine Bf.P (λe=>?_) (λe=>?_))
  ·grind [dD]
  (conv=>whnf)
  refine CF (i+1) ψ ω ?_;exact wB
 repeat'(first|refine gE ?_|fail)
 exact Z0 (λz=>[I z]) (gh ω d).symm
theorem rF(xs:List aR)(pr:aR->Bool)(a:xs.length<=9223372036854775807):zzA 488 false [.val none (cY .V xs),.fn (rW Tryz.prog (G4 (some 3) (aR.enc .V) pr xs))] .one [B (xs.any pr)]:=by
 refine fO 9 [] Tryz.func488 rfl ?_
 repeat'(first|refine gP ?_|(conv=>whnf);first|refine C9 (vQ xs pr a) ?_)
 grind [mT]
theorem wG(xs:List aA)(pr:aA->Bool)(g:xs.length<=9223372036854775807):zzA 240 false [.val none (cE .V xs),.fn (rW Tryz.prog (G4 (some 3) (aA.enc .V) pr xs))] .one [I (cU pr xs)]:=by
 refine fO 19 [] Tryz.func240 rfl ?_
 repeat'(first|refine gP ?_|fail)
 (conv=>whnf)
 refine CJ (ι:=Nat) (λi=>[(0,.H .one (cE .V xs)),(1,.fv (rW Tryz.prog (G4 (some 3) (aA.enc .V) pr xs))),(7,.H .one [I xs.length]),(8,.H .one [I (i:Nat)])]) (λi=>i<=xs.length/\∀(j:Nat)(z:aA),j<i->xs[j]? = some z->pr z=false) (λi=>xs.length - i) 0 ?_ ψ λi b=>?_
 ·exact wB
 obtain⟨b,d⟩:=b;by_cases a:i<xs.length
 ·obtain⟨y,c⟩ : ∃y,xs[i]? = some y:=⟨_,X2 a⟩
  repeat'(first|refine gE ?_|(conv=>whnf);first|with_reducible refine CE (aa c) ?_|refine Fv.mk (k:=.one) (rcs:=[B (pr y)]) ⟨y,O2 c,rfl,rfl,rfl⟩ ?_|refine Bf.P (λe=>?_) (λe=>?_))
  ·grind [dD]
  (conv=>whnf)
  refine CF (i+1) ψ ω ?_;exact wB
 repeat'(first|refine gE ?_|fail)
 exact Z0 (λz=>[I z]) (gh ω d).symm
theorem qU(xs:List bo)(pr:bo->Bool)(g:xs.length<=9223372036854775807):zzA 88 false [.val none (nA .V xs),.fn (rW Tryz.prog (G4 (some 4) (bo.enc .V) pr xs))] .one [I (cU pr xs)]:=by
 refine fO 19 [] Tryz.func88 rfl ?_
 repeat'(first|refine gP ?_|fail)
 (conv=>whnf)
 refine CJ (ι:=Nat) (λi=>[(0,.H .one (nA .V xs)),(1,.fv (rW Tryz.prog (G4 (some 4) (bo.enc .V) pr xs))),(7,.H .one [I xs.length]),(8,.H .one [I (i:Nat)])]) (λi=>i<=xs.length/\∀(j:Nat)(z:bo),j<i->xs[j]? = some z->pr z=false) (λi=>xs.length - i) 0 ?_ ψ λi b=>?_
 ·exact wB
 obtain⟨b,d⟩:=b;by_cases a:i<xs.length
 ·obtain⟨y,c⟩ : ∃y,xs[i]? = some y:=⟨_,X2 a⟩
  repeat'(first|refine gE ?_|(conv=>whnf);first|with_reducible refine CE (aa c) ?_|refine Fv.mk (k:=.one) (rcs:=[B (pr y)]) ⟨y,O2 c,rfl,rfl,rfl⟩ ?_|refine Bf.P (λe=>?_) (λe=>?_))
  ·grind [dD]
  (conv=>whnf)
  refine CF (i+1) ψ ω ?_;exact wB
 repeat'(first|refine gE ?_|fail)
 exact Z0 (λz=>[I z]) (gh ω d).symm
theorem uR(xs:List bo)(pr:bo->Bool)(a:xs.length<=9223372036854775807):zzA 233 false [.val none (nA .V xs),.fn (rW Tryz.prog (G4 (some 4) (bo.enc .V) pr xs))] .one [B (xs.any pr)]:=by
 refine fO 9 [] Tryz.func233 rfl ?_
 repeat'(first|refine gP ?_|(conv=>whnf);first|refine C9 (qU xs pr a) ?_)
 grind [mT]
def Rj(a:k<=3):IntKind.i64.wrap (1*2 ^ min ((k:Nat):Int).toNat IntKind.i64.bits)=csz (k:Nat):=by
 obtain rfl|rfl|rfl|rfl:k=0\/k=1\/k=2\/k=3:=ω
 all_goals decide
theorem Qs(a:k<=100):IntKind.u64.wrap (k:Nat)=(k:Nat):=by grind [Go.IntKind.wrap,Go.IntKind.bits]
theorem DL(a:k<=3)(h:csz (k:Nat)<z)(b:z<=8):k<=2:=by
 have c:csz ((3:Nat):Int)=8:=by decide
 grind
theorem yo(a:k<=3)(h1:1<=z)(b:k=0\/csz ((k - 1:Nat):Int)<z)(c:¬csz (k:Nat)<z):aK z=(k:Nat):=by
 have d:csz ((0:Nat):Int)=1:=by decide
 have e:csz ((1:Nat):Int)=2:=by decide
 have f:csz ((2:Nat):Int)=4:=by decide
 have g:csz ((3:Nat):Int)=8:=by decide
 unfold aK;obtain rfl|rfl|rfl|rfl:k=0\/k=1\/k=2\/k=3:=ω
 all_goals grind
def kM(z:Int):zzA 220 false [.val none [I z]] .one [I (aK z)]:=by
 refine fO 15 [] Tryz.func220 rfl ?_;by_cases c:1<=z/\z<=8
 ·repeat'(first|refine gE ?_|(conv=>whnf);first|with_reducible refine Bf.D (λb=>?_) (λb=>?_)|refine C9 (aJ z 1 8) ?_)
  (conv=>whnf)
  refine CJ (ι:=Nat) (λk=>[(0,.H .one [I (z)]),(3,.H .one [I ((k:Nat):Int)])]) (λk=>k<=3/\(k=0\/csz ((k - 1:Nat):Int)<z)) (λk=>4 - k) (0) ?_ ω λk a=>?_
  ·exact wB
  obtain⟨a,d⟩:=a
  repeat'(first|refine gP ?_|(conv=>whnf);first|with_reducible refine Bf.D (λb=>?_) (λb=>?_)|refine CN (Qs ω) ?_|refine CN (Rj a) ?_|refine CP ω ?_)
  all_goals first
   | exact Z0 (λz=>[I z]) (yo a c.1 d (by assumption)).symm
   | ((conv=>whnf);refine CF (k+1) ⟨by have:=DL a (by assumption) c.2;omega,.inr (by simpa using (by assumption:csz (k:Nat)<z))⟩ (by have:=DL a (by assumption) c.2;omega) ?_;(exact wB))
 repeat'(first|refine gE ?_|(conv=>whnf);first|with_reducible refine Bf.D (λb=>?_) (λb=>?_)|refine C9 (aJ z 1 8) ?_)
 all_goals exact Z0 (λz=>[I z]) (by unfold aK;(repeat' split)<;>omega)
def ta(z:Int):zzA 64 false [.val none [I z]] .one [I (aK z)]:=by
 refine fO 14 [] Tryz.func64 rfl ?_;by_cases c:1<=z/\z<=8
 ·repeat'(first|refine gE ?_|(conv=>whnf);first|with_reducible refine Bf.D (λa=>?_) (λa=>?_)|refine C9 (aN z 1 8) ?_)
  (conv=>whnf)
  refine CJ (ι:=Nat) (λk=>[(0,.H .one [I (z)]),(3,.H .one [I ((k:Nat):Int)])]) (λk=>k<=3/\(k=0\/csz ((k - 1:Nat):Int)<z)) (λk=>4 - k) (0) ?_ ω λk b=>?_
  ·exact wB
  obtain⟨b,d⟩:=b
  repeat'(first|refine gP ?_|(conv=>whnf);first|with_reducible refine Bf.D (λa=>?_) (λa=>?_)|refine C9 (fI _) ?_)
  all_goals first
   | exact Z0 (λz=>[I z]) (yo b c.1 d (by assumption)).symm
   | ((conv=>whnf);refine CF (k+1) ⟨by have:=DL b (by assumption) c.2;omega,.inr (by simpa using (by assumption:csz (k:Nat)<z))⟩ (by have:=DL b (by assumption) c.2;omega) ?_;(exact wB))
 repeat'(first|refine gE ?_|(conv=>whnf);first|with_reducible refine Bf.D (λa=>?_) (λa=>?_)|refine C9 (aN z 1 8) ?_)
 all_goals exact Z0 (λz=>[I z]) (by unfold aK;(repeat' split)<;>omega)
theorem su(q:bQ)(a:Int)(d:bQ.sml q):zzA 359 false [.val (some 2) (bQ.enc .V q),.val none [I a]] .one [B (q.a6.any (eQ a))]:=by
 have j:q.a6.length<=1048576:=d.1;refine fO 21 [] Tryz.func359 rfl ?_
 repeat'(first|refine gP ?_|fail)
 (conv=>whnf)
 refine CJ (ι:=Nat) (λi=>[(1,.H .one [I (a)]),(2,.H .box (bQ.enc .V q)),(5,.H .one [I ((i:Nat):Int)])]) (λi=>i<=q.a6.length/\(q.a6.take i).any (eQ a)=false) (λi=>q.a6.length - i) (0) ?_ ψ λi c=>?_
 ·exact wB
 obtain⟨c,e⟩:=c;by_cases g:i<q.a6.length
 ·have b:=au g
  repeat'(first|refine gE ?_|(conv=>whnf);first|with_reducible (first|refine CE (aa b) ?_|refine Bf.E (λh=>?_) (λh=>?_)))
  all_goals first
   | exact Z0 (λz=>[B z]) ((Ec b (O0 (by assumption))).symm)
   | ((conv=>whnf);refine CF (i+1) ⟨ω,x8 b e (W0 (by assumption))⟩ ω ?_;(exact wB))
 repeat'(first|refine gE ?_|fail)
 exact Z0 (λz=>[B z]) ψ
def iO(xs:List aR)(i:Nat):quarCells xs (i+1)=quarCells xs i+csz (nth xs i).d:=rfl
theorem MW(k:Int):0<=csz k/\csz k<=8:=by grind [ce,csz]
theorem vm(xs:List aR)(c:lC xs):zzA 360 false [.val none (cY .V xs)] .one [I (quarCells xs xs.length)]:=by
 have g:=c.1;refine fO 20 [] Tryz.func360 rfl ?_
 repeat'(first|refine gP ?_|fail)
 (conv=>whnf)
 refine CJ (ι:=Nat) (λi=>[(0,.H .one (cY .V xs)),(3,.H .one [I (quarCells xs i)]),(4,.H .one [I ((i:Nat):Int)])]) (λi=>i<=xs.length/\0<=quarCells xs i/\quarCells xs i<=8*i) (λi=>xs.length - i) (0) ?_ (⟨X0 _,by simp[quarCells],by simp[quarCells]⟩) λi b=>?_
 ·exact wB
 obtain⟨b,h,j⟩:=b;by_cases d:i<xs.length
 ·have e:=au d
  have k:=MW (nth xs i).d;have a:=iO xs i
  repeat'(first|refine gE ?_|(conv=>whnf);first|with_reducible refine CE (aa e) ?_|refine C9 (ee _) ?_)
  ((conv=>whnf);refine CF (i+1) ω ω ?_)
  rw[a];exact wB
 repeat'(first|refine gE ?_|fail)
 grind
theorem xz(xs:List aR)(c:lC xs):zzA 231 false [.val none (cY .V xs)] .one [I (quarCells xs xs.length)]:=by
 have g:=c.1;refine fO 19 [] Tryz.func231 rfl ?_
 repeat'(first|refine gP ?_|fail)
 (conv=>whnf)
 refine CJ (ι:=Nat) (λi=>[(3,.H .one [I (quarCells xs i)]),(6,.H .one (cY .V xs)),(7,.H .one [I (xs.length)]),(8,.H .one [I ((i:Nat):Int)])]) (λi=>i<=xs.length/\0<=quarCells xs i/\quarCells xs i<=8*i) (λi=>xs.length - i) (0) ?_ (⟨X0 _,by simp[quarCells],by simp[quarCells]⟩) λi b=>?_
 ·exact wB
 obtain⟨b,h,j⟩:=b;by_cases d:i<xs.length
 ·have e:=au d
  have k:=MW (nth xs i).d;have a:=iO xs i
  repeat'(first|refine gE ?_|(conv=>whnf);first|with_reducible refine CE (aa e) ?_|refine C9 (fI _) ?_)
  ((conv=>whnf);refine CF (i+1) ω ω ?_)
  rw[a];exact wB
 repeat'(first|refine gE ?_|fail)
 grind
def BA(a:aR):zzA 358 false [.val (some 3) (aR.enc .V a)] .one [B (decide (0<=a.d/\a.d<=3/\0<=a.Addr/\0<=a.b6))]:=by
 refine fO 16 [] Tryz.func358 rfl ?_
 repeat'(first|refine gP ?_|(conv=>whnf);first|with_reducible refine Bf.D (λb=>?_) (λb=>?_)|refine C9 (aJ _ 0 3) ?_)
 all_goals exact Z0 (λz=>[B z]) ((by first|(symm;exact W0 ω)|exact decide_eq_decide.2 ω))
variable{xs:List aR}
theorem Nb(a:lC xs)(i:Nat):lC (xs.take i):=⟨by have:=a.1;grind,λ_ _=>trivial⟩
def pc(q:bQ)(a:bQ.sml q):zzA 213 false [.val (some 2) (bQ.enc .V q)] .one [B (gq q)]:=by
 have l:q.a6.length<=1048576:=a.1;refine fO 57 [(5,29,[17,18,19,20,21,22,23,24,25,26,27,28,29,30,31,32,33,34,35,36,37,38,39,40,41,42,43,44,45]),(7,11,[46,47,48,49,50,51,52,53,54,55,56])] Tryz.func213 rfl ?_
 repeat'(first|refine gP ?_|fail)
 (conv=>whnf)
 refine CJ (ι:=Nat) (λi=>[(1,.H .box (bQ.enc .V q)),(3,.H .one [I ((i:Nat):Int)])]) (λi=>i<=q.a6.length/\df i (kL q.a6)=true) (λi=>q.a6.length - i) 0 ?_ ⟨X0 _,rfl⟩ λi e=>?_
 ·exact wB
 obtain⟨e,g⟩:=e;by_cases b:i<q.a6.length
 ·have j:=au b
  have h:=su ⟨0,q.a6.take i⟩ (nth q.a6 i).Addr (Nb a i);cases c:(q.a6.take i).any (eQ (nth q.a6 i).Addr)<;>rw[show(bQ.mk 0 (q.a6.take i)).a6.any (eQ (nth q.a6 i).Addr)=_ from c]at h
  all_goals
   repeat'(first|refine gE ?_|(conv=>whnf);first|with_reducible (first|refine CE (aa j) ?_|refine Bf.D (λd=>?_) (λd=>?_))|refine C9 (BA _) ?_|refine CO ω (aa (gu ω b)) ?_|refine CY i rfl (by simp;omega) (λr k=>by obtain⟨z,-,rfl⟩:=Y4.1 k;rfl) (W4 ..) ?_|refine C9 h ?_)
   all_goals first
    | exact Z0 (λz=>[B z]) ((by symm;unfold gq;rw[cC b (by unfold kL;first|(rw[c];simp;done)|(rw[W0 ω];rfl))];rfl))
    | ((conv=>whnf);refine CF (i+1) ⟨ω,bU g (by unfold kL;rw[c,O0 ω];rfl)⟩ ω ?_;(exact wB))
 obtain rfl:i=q.a6.length:=ω
 repeat'(first|refine gE ?_|(conv=>whnf);first|with_reducible refine Bf.D (λd=>?_) (λd=>?_)|refine C9 (aJ _ 0 500) ?_|refine C9 (vm q.a6 a) ?_)
 all_goals exact Z0 (λz=>[B z]) ((by unfold gq;rw[g];simp only[Bool.true_and];first|(symm;exact W0 ω)|exact decide_eq_decide.2 ω))
theorem vp(b:aR)(a:Int):zzA 489 false [.val (some 3) (aR.enc .V b),.ptr [I a]] .one [B (eQ a b)]:=by
 refine fO 8 [] Tryz.func489 rfl ?_
 repeat'(first|refine gP ?_|fail)
 grind [eQ]
def Ak(xs:List aR)(a:Int)(b:xs.length<=9223372036854775807):zzA 378 false [.val none (cY .V xs),.val none [I a]] .one [B (xs.any (eQ a))]:=by
 refine fO 8 [] Tryz.func378 rfl ?_
 repeat'(first|refine gP ?_|(conv=>whnf);first|refine Cq.mk (G4 (some 3) (aR.enc .V) (eQ a) xs) (vp default a).has (λL k rcs c=>?_) ?_|refine C9 (rF xs (eQ a) b) ?_)
 ·obtain⟨y,-,rfl,rfl,rfl⟩:=c
  exact vp y a
 rfl
def qi(xs:List aR)(a:aR):Bool:=decide (0<=a.d/\a.d<=3/\0<=a.Addr/\0<=a.b6/\(xs.length=0\/(nth xs (xs.length - 1)).b6<=a.b6))&&!xs.any (eQ a.Addr)
theorem Do(xs:List aR)(b:aR)(g:xs.length<=1048576):zzA 230 false [.val none (cY .V xs),.val (some 3) (aR.enc .V b)] .one [B (qi xs b)]:=by
 have c:=Ak xs b.Addr ω;cases d:xs.any (eQ b.Addr)<;>rw[d]at c
 ·by_cases h:xs.length=0
  ·refine fO 40 [(3,15,[25,26,27,28,29,30,31,32,33,34,35,36,37,38,39])] Tryz.func230 rfl ?_
   repeat'(first|refine gP ?_|(conv=>whnf);first|with_reducible (first|refine Bf.D (λa=>?_) (λa=>?_)|refine Bf.E (λa=>?_) (λa=>?_))|refine C9 (fA _) ?_|refine C9 c ?_)
   all_goals first
    | exact Z0 (λz=>[B z]) ((by unfold qi;rw[d,Bool.not_false,Bool.and_true];first|(symm;exact W0 ω)|(symm;exact O0 ω)|exact decide_eq_decide.2 ω))
    |(exfalso;omega)
    |trace_state
  have e:xs[((xs.length:Int) - 1).toNat]? = some (nth xs (xs.length - 1)):=by rw[show((xs.length:Int) - 1).toNat=xs.length - 1 by omega];grind [au]
  refine fO 40 [(3,15,[25,26,27,28,29,30,31,32,33,34,35,36,37,38,39])] Tryz.func230 rfl ?_
  repeat'(first|refine gP ?_|(conv=>whnf);first|with_reducible (first|refine Bf.D (λa=>?_) (λa=>?_)|refine Bf.E (λa=>?_) (λa=>?_))|refine C9 (fA _) ?_|refine C9 c ?_|refine CO ω (aa e) ?_)
  all_goals first
   | exact Z0 (λz=>[B z]) ((by unfold qi;rw[d,Bool.not_false,Bool.and_true];first|(symm;exact W0 ω)|(symm;exact O0 ω)|exact decide_eq_decide.2 ω))
   |(exfalso;omega)
   |trace_state
 refine fO 40 [(3,15,[25,26,27,28,29,30,31,32,33,34,35,36,37,38,39])] Tryz.func230 rfl ?_
 repeat'(first|refine gP ?_|(conv=>whnf);first|with_reducible refine Bf.D (λa=>?_) (λa=>?_)|refine C9 (fA _) ?_|refine C9 c ?_)
 all_goals exact Z0 (λz=>[B z]) ((by unfold qi;rw[d];simp))
theorem HQ(d:i<xs.length):qi (xs.take i) (nth xs i)=kL xs i:=by
 unfold qi kL;have a:(xs.take i).length=i:=ψ
 rw[a]
 congr 1
 refine decide_eq_decide.2 ?_;by_cases b:i=0
 ·subst b;simp
 have c:nth (xs.take i) (i - 1)=nth xs (i - 1):=by
  have:=au (xs:=xs) (i:=i - 1) ω
  grind [bk]
 rw[c]
theorem Gb(q:bQ)(d:bQ.sml q):zzA 79 false [.val (some 2) (bQ.enc .V q)] .one [B (gq q)]:=by
 have l:q.a6.length<=1048576:=d.1;refine fO 32 [(4,7,[13,14,15,16,17,18,19]),(7,11,[21,22,23,24,25,26,27,28,29,30,31])] Tryz.func79 rfl ?_
 repeat'(first|refine gP ?_|fail)
 (conv=>whnf)
 refine CJ (ι:=Nat) (λi=>[(1,.H .box (bQ.enc .V q)),(6,.H .one (cY .V q.a6)),(7,.H .one [I (q.a6.length)]),(8,.H .one [I ((i:Nat):Int)])]) (λi=>i<=q.a6.length/\df i (kL q.a6)=true) (λi=>q.a6.length - i) 0 ?_ ⟨X0 _,rfl⟩ λi e=>?_
 ·exact wB
 obtain⟨e,g⟩:=e;by_cases a:i<q.a6.length
 ·have h:=au a
  have b:=Do (q.a6.take i) (nth q.a6 i) ψ;rw[HQ a]at b;cases c:kL q.a6 i<;>rw[c]at b
  all_goals
   repeat'(first|refine gE ?_|(conv=>whnf);first|with_reducible refine CE (aa h) ?_|refine CY i rfl (by simp;omega) (λr j=>by obtain⟨z,-,rfl⟩:=Y4.1 j;rfl) (W4 ..) ?_|refine C9 b ?_)
   all_goals first
    | exact Z0 (λz=>[B z]) ((by symm;unfold gq;rw[cC a c];rfl))
    | ((conv=>whnf);refine CF (i+1) ⟨ω,bU g c⟩ ω ?_;(exact wB))
 obtain rfl:i=q.a6.length:=ω
 repeat'(first|refine gE ?_|(conv=>whnf);first|with_reducible refine Bf.D (λk=>?_) (λk=>?_)|refine C9 (aN _ 0 500) ?_|refine C9 (xz q.a6 d) ?_)
 all_goals exact Z0 (λz=>[B z]) ((by unfold gq;rw[g];simp only[Bool.true_and];first|(symm;exact W0 ω)|exact decide_eq_decide.2 ω))
def yw(h:ac):Prop:=aL.sml h.G.F.R
def iw(h:ac)(p:Int)(a:yw h):zzA 355 false [.val (some 24) (ac.enc .V h),.val none [I p]] .one (aH .own (aT h p)):=by
 refine fO 23 [] Tryz.func355 rfl ?_ (.inr (bO _))
 repeat'((conv=>whnf);first|with_reducible (first|refine Lm ?_|refine Wm ω ?_|refine Bf.E (λb=>?_) (λb=>?_)|refine Bn ?_|refine jX.wk rfl ?_)|refine Bt ?_|refine Bu ?_|refine C9 (dl h.G.F.R p a) ?_|refine C9 (gR h.G.F.R _ a) ?_)
 all_goals(unfold aT;first|rw[CD (by assumption)]|rw[CB (by assumption)])
 all_goals exact⟨rfl,trivial⟩
def o8(h:ac)(p:Int)(a:yw h):zzA 227 false [.val (some 24) (ac.enc .V h),.val none [I p]] .one (aH .own (aT h p)):=by
 refine fO 22 [] Tryz.func227 rfl ?_ (.inr (bO _))
 repeat'((conv=>whnf);first|with_reducible (first|refine Lm ?_|refine Wm ω ?_|refine Bf.E (λb=>?_) (λb=>?_)|refine Bn ?_|refine jX.wk rfl ?_)|refine Bt ?_|refine Bu ?_|refine C9 (jf h.G.F.R p a) ?_|refine C9 (kR h.G.F.R _ a) ?_)
 all_goals(unfold aT;first|rw[CD (by assumption)]|rw[CB (by assumption)])
 all_goals exact⟨rfl,trivial⟩
theorem pj(k:ah)(p:Int)(a:aL.sml k.F.R):zzA 127 false [.val (some 5) (ah.enc .V k),.val none [I p]] .one [B (decide ((af k.F.R p).e≠0))]:=by
 refine fO 12 [] Tryz.func127 rfl ?_
 repeat'(first|refine gP ?_|(conv=>whnf);first|refine C9 (jf k.F.R p a) ?_)
 grind
def pR(z:Int):zzA 83 false [.val none [I z]] .one [B (decide (0<=z/\z<=1073741823))]:=by
 refine fO 5 [] Tryz.func83 rfl ?_
 repeat'(first|refine gP ?_|(conv=>whnf);first|refine C9 (aN z 0 1073741823) ?_)
 rfl
theorem jZ(h:ac)(p:Int)(g:h.J.length<=1048576):zzA 219 false [.val (some 24) (ac.enc .V h),.val none [I p]] .one [I (gL h p)]:=by
 refine fO 22 [] Tryz.func219 rfl ?_
 repeat'(first|refine gP ?_|fail)
 (conv=>whnf)
 refine CJ (ι:=Nat) (λi=>[(1,.H .one [I (p)]),(2,.H .box (ac.enc .V h)),(5,.H .one [I ((i:Nat):Int)])]) (λi=>i<=h.J.length/\∀(j:Nat)(z:aA),j<i->h.J[j]? = some z->mt p z=false) (λi=>h.J.length - i) (0) ?_ ψ λi c=>?_
 ·exact wB
 obtain⟨c,a⟩:=c;by_cases d:i<h.J.length
 ·have b:=au d
  repeat'(first|refine gE ?_|(conv=>whnf);first|with_reducible (first|refine CE (aa b) ?_|refine Bf.E (λe=>?_) (λe=>?_)))
  all_goals first
   | exact Z0 (λz=>[I z]) (dD b (O0 (by assumption)) a).symm
   | ((conv=>whnf);refine CF (i+1) ⟨ω,dY b (W0 (by assumption)) a⟩ ω ?_;(exact wB))
 repeat'(first|refine gE ?_|fail)
 exact Z0 (λz=>[I z]) (gh ω a).symm
theorem A4(s:aA)(p:Int):zzA 241 false [.val (some 3) (aA.enc .V s),.ptr [I p]] .one [B (mt p s)]:=by
 refine fO 8 [] Tryz.func241 rfl ?_
 repeat'(first|refine gP ?_|fail)
 grind [mt]
def vO(h:ac)(p:Int)(b:h.J.length<=1048576):zzA 85 false [.val (some 24) (ac.enc .V h),.val none [I p]] .one [I (gL h p)]:=by
 refine fO 9 [] Tryz.func85 rfl ?_
 repeat'(first|refine gP ?_|(conv=>whnf);first|refine Cq.mk (G4 (some 3) (aA.enc .V) (mt p) h.J) (A4 default p).has (λL k rcs a=>?_) ?_|refine C9 (wG h.J (mt p) ω) ?_)
 ·obtain⟨y,-,rfl,rfl,rfl⟩:=a
  exact A4 y p
 rfl
def flight1(m:aM)(i:Nat):List Int:=(m.U.take i).flatMap λl=>l.map (·.Addr)
def flight2(m:aM)(i:Nat):List Int:=(m.y.take i).flatten
theorem nM{l:List dx}(h:m.U[i]? = some l):flight1 m (i+1)=flight1 m i++l.map (·.Addr):=by grind [I6,flight1]
theorem oh(h:m.y[i]? = some l):flight2 m (i+1)=flight2 m i++l:=by grind [I6,flight2]
theorem pJ(h:bR m=true):aQ m=flight1 m m.U.length++flight2 m m.y.length:=by grind [aQ,flight1,flight2]
theorem vn(h:bR m=false):aQ m=[]:=by grind [aQ]
theorem tt(h:bR m=true):1<=m.U.length/\m.U.length<=4/\m.y.length=m.U.length:=by grind [bR]
def Gk : ∀r∈l.map (rI .V),r.length=1:=by
 intro r a;obtain⟨z,-,rfl⟩:=Y4.1 a;rfl
def K4 : ∀r∈l.map (rI .V),bj r=true:=by
 intro r a;obtain⟨z,-,rfl⟩:=Y4.1 a;rfl
theorem zz(m:aM)(g:aM.sml m):zzA 35 false [.val (some 2) (aM.enc .V m)] .one (aH .own (aQ m)):=by
 have h:=lV m g;cases d:bR m<;>rw[d]at h
 ·refine fO 56 [] Tryz.func35 rfl ?_ (.inr (bO _))
  repeat'((conv=>whnf);first|with_reducible (first|refine Lm ?_|refine Wm ω ?_|refine Bn ?_|refine jX.wk rfl ?_)|refine Bt ?_|refine Bu ?_|refine C9 h ?_)
  all_goals(rw[vn d];exact⟨rfl,trivial⟩)
 obtain⟨D,E,F⟩:=tt d;refine fO 56 [] Tryz.func35 rfl ?_ (.inr (bO _))
 repeat'(first|refine gP ?_|(conv=>whnf);first|refine C9 h ?_)
 (conv=>whnf)
 refine CJ (ι:=Nat × List Int) (λi=>[(1,.H .box (aM.enc .V m)),(3,.H .one (aH .own i.2)),(4,.H .one [I ((i.1:Nat):Int)])]) (λi=>i.1<=m.U.length/\i.2=flight1 m i.1/\i.2.length<=1048576*i.1) (λi=>m.U.length - i.1) ((0,[])) ?_ (⟨X0 _,rfl,X0 _⟩) λi j=>?_
 ·exact wB
 obtain⟨i,S⟩:=i;obtain⟨j,p,t⟩:=j;simp only at j p t |-;by_cases q:i<m.U.length
 ·have l:=au q
  have u:(nth m.U i).length<=1048576:=(g.1.2 _ (ar q)).1
  repeat'(first|refine gE ?_|(conv=>whnf);first|with_reducible refine CE (aa l) ?_)
  (conv=>whnf)
  refine CJ (ι:=Nat × List Int) (λk=>[(1,.H .box (aM.enc .V m)),(3,.H .one (aH .own k.2)),(4,.H .one [I ((i:Nat):Int)]),(5,.H .one [I ((k.1:Nat):Int)])]) (λk=>k.1<=(nth m.U i).length/\k.2=S++((nth m.U i).take k.1).map (·.Addr)) (λk=>(nth m.U i).length - k.1) ((0,S)) ?_ ψ λk b=>?_
  ·exact wB
  obtain⟨k,c⟩:=k;obtain⟨b,a⟩:=b;simp only at b a |-;have w:c.length=S.length+k:=ψ
  by_cases e:k<(nth m.U i).length
  ·have n:=au e
   repeat'(first|refine gE ?_|(conv=>whnf);first|with_reducible (first|refine CE (aa l) ?_|refine CE (aa n) ?_)|refine CV cB (λr y=>by rw[V1.1 y];rfl) (by simp[bj,ed]) (by simp;omega) (by show _*8<=_;simp;omega) rfl ?_)
   ((conv=>whnf)
    refine CF (k+1,c++[(nth (nth m.U i) k).Addr]) ⟨(by simp only;omega),(by grind [I6])⟩ (by simp only;omega) ?_
    (repeat'(first|exact trivial|rfl|exact CM rfl (CM (Z0 (C.s dR.own) (by simp[rI])) trivial)|refine CM ?_ ?_)))
  obtain rfl:k=(nth m.U i).length:=ω
  rw[X5]at a
  repeat'(first|refine gE ?_|(conv=>whnf);first|with_reducible refine CE (aa l) ?_)
  ((conv=>whnf);refine CF (i+1,c) ⟨(by simp only;omega),(by grind [nM]),(by simp only;omega)⟩ (by simp only;omega) ?_;(exact wB))
 obtain rfl:i=m.U.length:=ω
 repeat'(first|refine gE ?_|fail)
 (conv=>whnf)
 refine CJ (ι:=Nat × List Int) (λk=>[(1,.H .box (aM.enc .V m)),(3,.H .one (aH .own k.2)),(6,.H .one [I ((k.1:Nat):Int)])]) (λk=>k.1<=m.y.length/\k.2=S++flight2 m k.1/\k.2.length<=S.length+1048576*k.1) (λk=>m.y.length - k.1) ((0,S)) ?_ (⟨X0 _,by simp[flight2],by simp⟩) λk b=>?_
 ·exact wB
 obtain⟨k,c⟩:=k;obtain⟨b,a,o⟩:=b;simp only at b a o |-;by_cases e:k<m.y.length
 ·have n:=au e
  have B:(nth m.y k).length<=1048576:=g.2.2 _ (ar e)
  repeat'(first|refine gE ?_|(conv=>whnf);first|with_reducible refine CE (aa n) ?_|refine CV cB Gk (λ_=>K4) (by simp;omega) (by show _*8<=_;simp;omega) rfl ?_)
  ((conv=>whnf)
   refine CF (k+1,c++nth m.y k) ⟨(by simp only;omega),(by grind [oh]),ψ⟩ (by simp only;omega) ?_
   (repeat'(first|exact trivial|rfl|exact CM rfl (CM (Z0 (C.s dR.own) (by simp[rI])) trivial)|refine CM ?_ ?_)))
 obtain rfl:k=m.y.length:=ω
 repeat'(first|refine gE ?_|fail)
 rw[pJ d,<-p,<-a];rfl
theorem zt(m:aM)(g:aM.sml m):zzA 237 false [.val (some 2) (aM.enc .V m)] .one (aH .own (aQ m)):=by
 have h:=vC m g;cases d:bR m<;>rw[d]at h
 ·refine fO 46 [] Tryz.func237 rfl ?_ (.inr (bO _))
  repeat'((conv=>whnf);first|with_reducible (first|refine Lm ?_|refine Wm ω ?_|refine Bn ?_|refine jX.wk rfl ?_)|refine Bt ?_|refine Bu ?_|refine C9 h ?_)
  all_goals(rw[vn d];exact⟨rfl,trivial⟩)
 obtain⟨D,E,F⟩:=tt d;refine fO 46 [] Tryz.func237 rfl ?_ (.inr (bO _))
 repeat'(first|refine gP ?_|(conv=>whnf);first|refine C9 h ?_)
 (conv=>whnf)
 refine CJ (ι:=Nat × List Int) (λi=>[(1,.H .box (aM.enc .V m)),(3,.H .one (aH .own i.2)),(15,.H .one (y8 .V m.U)),(16,.H .one [I (m.U.length)]),(17,.H .one [I ((i.1:Nat):Int)])]) (λi=>i.1<=m.U.length/\i.2=flight1 m i.1/\i.2.length<=1048576*i.1) (λi=>m.U.length - i.1) ((0,[])) ?_ (⟨X0 _,rfl,X0 _⟩) λi j=>?_
 ·exact wB
 obtain⟨i,S⟩:=i;obtain⟨j,o,q⟩:=j;simp only at j o q |-;by_cases p:i<m.U.length
 ·have t:=au p
  have u:(nth m.U i).length<=1048576:=(g.1.2 _ (ar p)).1
  repeat'(first|refine gE ?_|(conv=>whnf);first|with_reducible refine CE (aa t) ?_)
  (conv=>whnf)
  refine CJ (ι:=Nat × List Int) (λk=>[(1,.H .box (aM.enc .V m)),(3,.H .one (aH .own k.2)),(15,.H .one (y8 .V m.U)),(16,.H .one [I (m.U.length)]),(17,.H .one [I ((i:Nat):Int)]),(21,.H .one (cL .V (nth m.U i))),(22,.H .one [I ((nth m.U i).length)]),(23,.H .one [I ((k.1:Nat):Int)])]) (λk=>k.1<=(nth m.U i).length/\k.2=S++((nth m.U i).take k.1).map (·.Addr)) (λk=>(nth m.U i).length - k.1) ((0,S)) ?_ ψ λk b=>?_
  ·exact wB
  obtain⟨k,c⟩:=k;obtain⟨b,a⟩:=b;simp only at b a |-;have w:c.length=S.length+k:=ψ
  by_cases e:k<(nth m.U i).length
  ·have l:=au e
   repeat'(first|refine gE ?_|(conv=>whnf);first|with_reducible refine CE (aa l) ?_|refine CV cB (λr y=>by rw[V1.1 y];rfl) (by simp[bj,ed]) (by simp;omega) (by show _*8<=_;simp;omega) rfl ?_)
   ((conv=>whnf)
    refine CF (k+1,c++[(nth (nth m.U i) k).Addr]) ⟨(by simp only;omega),(by grind [I6])⟩ (by simp only;omega) ?_
    (repeat'(first|exact trivial|rfl|exact CM rfl (CM (Z0 (C.s dR.own) (by simp[rI])) trivial)|refine CM ?_ ?_)))
  obtain rfl:k=(nth m.U i).length:=ω
  rw[X5]at a
  repeat'(first|refine gE ?_|fail)
  ((conv=>whnf);refine CF (i+1,c) ⟨(by simp only;omega),(by grind [nM]),(by simp only;omega)⟩ (by simp only;omega) ?_;(exact wB))
 obtain rfl:i=m.U.length:=ω
 repeat'(first|refine gE ?_|fail)
 (conv=>whnf)
 refine CJ (ι:=Nat × List Int) (λk=>[(3,.H .one (aH .own k.2)),(35,.H .one (jE .V m.y)),(36,.H .one [I (m.y.length)]),(37,.H .one [I ((k.1:Nat):Int)])]) (λk=>k.1<=m.y.length/\k.2=S++flight2 m k.1/\k.2.length<=S.length+1048576*k.1) (λk=>m.y.length - k.1) ((0,S)) ?_ (⟨X0 _,by simp[flight2],by simp⟩) λk b=>?_
 ·exact wB
 obtain⟨k,c⟩:=k;obtain⟨b,a,n⟩:=b;simp only at b a n |-;by_cases e:k<m.y.length
 ·have l:=au e
  have B:(nth m.y k).length<=1048576:=g.2.2 _ (ar e)
  repeat'(first|refine gE ?_|(conv=>whnf);first|with_reducible refine CE (aa l) ?_|refine CV cB Gk (λ_=>K4) (by simp;omega) (by show _*8<=_;simp;omega) rfl ?_)
  ((conv=>whnf)
   refine CF (k+1,c++nth m.y k) ⟨(by simp only;omega),(by grind [oh]),ψ⟩ (by simp only;omega) ?_
   (repeat'(first|exact trivial|rfl|exact CM rfl (CM (Z0 (C.s dR.own) (by simp[rI])) trivial)|refine CM ?_ ?_)))
 obtain rfl:k=m.y.length:=ω
 repeat'(first|refine gE ?_|fail)
 rw[pJ d,<-o,<-a];rfl
def tbl(h:ac):aL:=h.G.F.R
def fk(h:ac):Nat:=h.G.F.R.K.length
def yQ(xs:List aA)(i:Nat):Bool:=decide (i=0\/(nth xs (i - 1)).Q<(nth xs i).Q)
def xw(xs:List aC)(i:Nat):Bool:=decide (i=0\/(nth xs (i - 1)).Q<(nth xs i).Q)
def xb(h:ac)(l:aC)(k:Nat):Bool:=decide ((aT h (l.Q+(k:Nat))).length=1)
def tc(h:ac)(i:Nat):Bool:=xw h.M i&&df (nth h.M i).a2.toNat (xb h (nth h.M i))
def wi(h:ac)(p:Nat):Bool:=decide ((nth (tbl h).K p).e≠0↔(p:Int)∈pgs h.J h.M)&&(decide ((nth (tbl h).K p).e≠0) != h.o.any (vS (p:Nat)))
def pages0(h:ac):Bool:=((df h.J.length (yQ h.J)&&df h.M.length (tc h))&&(pgs h.J h.M).all λp=>decide (p<fk h))&&df (fk h) (wi h)
def mu(h:ac)(i:Nat)(q:Int):Bool:=decide (gL h q=(i:Nat)) || (decide (0<=gL h q)&&meshable (nth h.J i) (nth h.J (gL h q).toNat))
def vw(h:ac):Bool:=df h.J.length λi=>(aT h (nth h.J i).Q).all (mu h i)
def mA(h:ac)(i j:Nat):Bool:=decide ((af (tbl h) (nth h.J i).Q).j≠(af (tbl h) (nth h.J j).Q).j) || meshable (nth h.J i) (nth h.J j)
def pP(h:ac):Bool:=df h.J.length λi=>df i (mA h i)
def fg(z:Int)(o:bo):Bool:=decide (o.Id=z)
def jb(h:ac)(o:bo):Bool:=
 let w:=denotes h.J h.M o.Addr
 decide (w.c3=0)&&((decide (w.b3=1)&&decide ((nth h.J w.c2.toNat).d=aK o.q)) || (decide (w.b3=3)&&decide ((nth h.M w.c2.toNat).q=o.q)))
def gS(a:Int)(h:ac)(i:Nat):Bool:=decide ((i=0\/(nth h.O (i - 1)).Addr<(nth h.O i).Addr)/\1<=(nth h.O i).Id/\(nth h.O i).Id<=a/\0<=(nth h.O i).a4/\(nth h.O i).a4<=h.S.length - 1)
def objAt(a:Int)(h:ac)(i:Nat):Bool:=(gS a h i&&!(h.O.take i).any (fg (nth h.O i).Id))&&jb h (nth h.O i)
def fY(h:ac):Bool:=df h.O.length (objAt (IntKind.i64.wrap (h.b - 1)) h)
def dy(h:ac)(a c:Int):Bool:=
 let w:=denotes h.J h.M a
 (decide (w.b3=1)&&decide (w.c3=0))&&(decide (c<0) || decide ((nth h.J w.c2.toNat).d=c))
def sF(h:ac)(c:aE)(k:Nat):Bool:=(nth c.a k).all λa=>dy h a (k:Nat)
def fh(h:ac)(c:aE):Bool:=df c.a.length (sF h c)
def ir(h:ac)(x:aR):Bool:=dy h x.Addr x.d
def kN(h:ac)(a:Int):Bool:=dy h a (-1)
def cH(h:ac):List Int:=h.S.flatMap λc=>c.a.flatten
def jH(h:ac):Bool:=((h.S.all (fh h))&&h.a7.a6.all (ir h))&&(aQ h.w).all (kN h)
def holders(h:ac):List Int:=((h.O.map (·.Addr)++cH h)++h.a7.a6.map (·.Addr))++aQ h.w
def k7(sp:List aA)(la:List aC)(a:Nat):Bool:=
 let w:=denotes sp la (a:Nat)
 decide (w.c3=0)&&(decide (w.b3=1) || decide (w.b3=3))
def lW(sp:List aA)(la:List aC)(n:Nat):List Int:=((List.range n).filter (k7 sp la)).map λ(i:Nat)=>(i:Int)
def kF(sp:List aA)(la:List aC):List Int:=lW sp la 512
def kg(h:ac):Bool:=(jH h&&decide (holders h).Nodup)&&decide ((holders h).length=(kF h.J h.M).length)
def lT(h:ac):Bool:=h.a7.a6.all λx=>decide (x.b6<=h.b1)
def cn(h:ac):Bool:=decide (0<=h.b5/\h.b5<=1073741823/\0<=h.b1/\h.b1<=1000000/\0<=h.c0/\h.c0<=1000/\1<=h.b/\h.b<=1000000)
def tn(h:ac):Bool:=if h.u then(jR h.Y&&decide (0<=gL h h.Y.X.a3))&&decide (0<=gL h h.Y.X.a1) else sR h.Y
def lO(h:ac):Bool:=((aF h.G&&bF (fk h) h.o)&&bt h.J h.M)&&pages0 h
set_option maxHeartbeats 8000000
theorem ew(h:bt sp la=true):sp.all bi=true/\la.all bN=true/\(pgs sp la).Nodup:=by grind [bt]
def Qi[Inhabited α]{xs:List α}{p:α->Bool}(h:xs.all p=true)(a:i<xs.length):p (nth xs i)=true:=O4.1 h _ (ar a)
variable{h:ac}
theorem Fy(h1:df h.J.length (yQ h.J)=false):pages0 h=false:=by grind [pages0]
theorem tH(h1:df h.M.length (tc h)=false):pages0 h=false:=by grind [pages0]
theorem GC(h1:p∈pgs h.J h.M)(a:¬p<fk h):pages0 h=false:=by grind [pages0]
theorem Gz(h1:df (fk h) (wi h)=false):pages0 h=false:=by grind [pages0]
theorem yz(h1:df h.J.length (yQ h.J)=true)(a:df h.M.length (tc h)=true)(b:∀p∈pgs h.J h.M,p<fk h)(c:df (fk h) (wi h)=true):pages0 h=true:=by grind [pages0]
theorem NK(h1:xw h.M i=false):tc h i=false:=by grind [tc]
theorem MQ(a:k<(nth h.M i).a2.toNat)(h1:xb h (nth h.M i) k=false):tc h i=false:=by grind [cC,tc]
theorem E2(h1:xw h.M i=true)(a:df (nth h.M i).a2.toNat (xb h (nth h.M i))=true):tc h i=true:=by grind [tc]
def gk(h:ac)(p:Int):(aT h p).length<=fk h:=by
 unfold aT;split
 ·simp
 exact rL ..
theorem uJ(h:bt sp la=true){l:aC}(a:la[i]? = some l):1<=l.a2/\l.a2<=63/\0<=l.Q/\l.Q<=31:=
 aS (O4.1 (ew h).2.1 l ψ)
theorem Ga(h:ac)(y:dB h.J)(E:dP h.M)(g:yw h)(F:gG h.o)(l:bt h.J h.M=true):zzA 211 false [.val (some 24) (ac.enc .V h)] .one [B (pages0 h)]:=by
 have Y:=y.1;have Z:=E.1;have hl3:fk h<=1048576:=g.1;have hl4:=F.1;refine fO 144 [(7,18,[28,29,30,31,32,33,34,35,36,37,38,39,40,41,42,43,44,45]),(13,18,[62,63,64,65,66,67,68,69,70,71,72,73,74,75,76,77,78,79])] Tryz.func211 rfl ?_
 repeat'(first|refine gP ?_|fail)
 (conv=>whnf)
 refine CJ (ι:=Nat × List Int) (λi=>[(1,.H .box (ac.enc .V h)),(3,.H .box (aL.enc .V (tbl h))),(4,.H .one [I (fk h)]),(5,.H .one (aH .own i.2)),(6,.H .one [I ((i.1:Nat):Int)])]) (λi=>i.1<=h.J.length/\i.2=(h.J.take i.1).map (·.Q)/\df i.1 (yQ h.J)=true) (λi=>h.J.length - i.1) ((0,[])) ?_ (⟨X0 _,rfl,rfl⟩) λi G=>?_
 ·exact wB
 obtain⟨i,S⟩:=i;obtain⟨G,H,J⟩:=G;simp only at G H J |-;have hSl:S.length=i:=ψ
 by_cases K:i<h.J.length
 ·have b:=au K
  repeat'(first|refine gE ?_|(conv=>whnf);first|with_reducible (first|refine CE (aa b) ?_|refine Bf.D (λa=>?_) (λa=>?_))|refine CO ω (aa (gu ω K)) ?_|refine CV cB (λr n=>by rw[V1.1 n];rfl) (by simp[bj,ed]) (by simp;omega) (by simp only[I1];exact zh (by simp;omega) (by decide)) rfl ?_)
  all_goals first
   | exact Z0 (λz=>[B z]) ((Fy (cC K (W0 ω))).symm)
   | ((conv=>whnf)
      refine CF (i+1,S++[(nth h.J i).Q]) ⟨(by simp only;omega),(by simp only;rw[H,I6,b];simp),bU J (O0 ω)⟩ (by simp only;omega) ?_
      (repeat'(first|exact trivial|rfl|exact CM rfl (CM (Z0 (C.s dR.own) (by simp[rI])) trivial)|refine CM ?_ ?_)))
 obtain rfl:i=h.J.length:=ω
 rw[X5]at H
 repeat'(first|refine gE ?_|fail)
 (conv=>whnf)
 refine CJ (ι:=Nat × List Int) (λk=>[(1,.H .box (ac.enc .V h)),(3,.H .box (aL.enc .V (tbl h))),(4,.H .one [I (fk h)]),(5,.H .one (aH .own k.2)),(7,.H .one [I ((k.1:Nat):Int)])]) (λk=>k.1<=h.M.length/\k.2=pgs h.J (h.M.take k.1)/\df k.1 (tc h)=true/\k.2.length<=1048576+64*k.1) (λk=>h.M.length - k.1) ((0,S)) ?_ (⟨X0 _,by grind [pgs],rfl,by simp only;omega⟩) λk L=>?_
 ·exact wB
 obtain⟨k,S2⟩:=k;obtain⟨L,c,M,O⟩:=L;simp only at L c M O |-;by_cases u:k<h.M.length
 ·have b:=au u
  have hpg:=uJ l b
  repeat'(first|refine gE ?_|(conv=>whnf);first|with_reducible (first|refine CE (aa b) ?_|refine Bf.D (λa=>?_) (λa=>?_))|refine CO ω (aa (gu ω u)) ?_)
  all_goals first
   | exact Z0 (λz=>[B z]) ((tH (cC u (NK (W0 ω)))).symm)
   |have e:xw h.M k=true:=O0 ω
    (conv=>whnf)
    refine CJ (ι:=Nat × List Int) (λq=>[(1,.H .box (ac.enc .V h)),(3,.H .box (aL.enc .V (tbl h))),(4,.H .one [I (fk h)]),(5,.H .one (aH .own q.2)),(7,.H .one [I ((k:Nat):Int)]),(8,.H .one [I ((q.1:Nat):Int)])]) (λq=>q.1<=(nth h.M k).a2.toNat/\q.2=S2++lpgs (nth h.M k) q.1/\df q.1 (xb h (nth h.M k))=true) (λq=>(nth h.M k).a2.toNat - q.1) ((0,S2)) ?_ (⟨X0 _,by simp[lpgs],rfl⟩) λq a=>?_
    ·exact wB
    obtain⟨q,Q⟩:=q;obtain⟨R,d,o⟩:=a;simp only at R d o |-;have U:Q.length=S2.length+q:=by rw[d,Y3,EZ]
    by_cases w:q<(nth h.M k).a2.toNat
    ·have hfl:=gk h ((nth h.M k).Q+(q:Nat))
     repeat'(first|refine gE ?_|(conv=>whnf);first|with_reducible (first|refine CE (aa b) ?_|refine Bf.N (λa=>?_) (λa=>?_))|refine C9 (iw h _ g) ?_|refine CV cB (λr n=>by rw[V1.1 n];rfl) (by simp[bj,ed]) (by simp;omega) (by show _*8<=_;simp;omega) rfl ?_)
     all_goals first
      | exact Z0 (λz=>[B z]) ((tH (cC u (MQ w (W0 ω)))).symm)
      | ((conv=>whnf)
         refine CF (q+1,Q++[(nth h.M k).Q+(q:Nat)]) ⟨(by simp only;omega),(by simp only;rw[d,kY,O6]),bU o (O0 ω)⟩ (by simp only;omega) ?_
         (repeat'(first|exact trivial|rfl|exact CM rfl (CM (Z0 (C.s dR.own) (by simp[rI])) trivial)|refine CM ?_ ?_)))
    obtain rfl:q=(nth h.M k).a2.toNat:=ω
    repeat'(first|refine gE ?_|(conv=>whnf);first|with_reducible refine CE (aa b) ?_)
    ((conv=>whnf);refine CF (k+1,Q) ⟨(by simp only;omega),(by simp only;rw[d,c,<-pK _ b]),bU M (E2 e o),(by simp only;omega)⟩ (by simp only;omega) ?_;(exact wB))
 obtain rfl:k=h.M.length:=ω
 rw[X5]at c
 repeat'(first|refine gE ?_|fail)
 (conv=>whnf)
 refine CJ (ι:=Nat) (λq=>[(1,.H .box (ac.enc .V h)),(3,.H .box (aL.enc .V (tbl h))),(4,.H .one [I (fk h)]),(5,.H .one (aH .own S2)),(10,.H .one [I ((q:Nat):Int)])]) (λq=>q<=S2.length/\∀j,j<q->nth S2 j<fk h) (λq=>S2.length - q) (0) ?_ ψ λq a=>?_
 ·exact wB
 obtain⟨a,o⟩:=a;by_cases w:q<S2.length
 ·have b:=au w
  repeat'(first|refine gE ?_|(conv=>whnf);first|with_reducible (first|refine CE (aa b) ?_|refine Bf.D (λa=>?_) (λa=>?_))|refine CG rfl (aa b) rfl ?_)
  all_goals first
   | exact Z0 (λz=>[B z]) ((GC (by rw[<-c];exact ar w) ω).symm)
   | ((conv=>whnf);refine CF (q+1) ⟨ω,λj hj=>by rcases Nat.lt_or_ge j q with V|V;exact o j V;(obtain rfl:j=q:=ω);omega⟩ ω ?_;(exact wB))
 have t:∀p∈pgs h.J h.M,p<fk h:=λp T=>by grind [List.mem_iff_getElem?,bk]
 repeat'(first|refine gE ?_|fail)
 (conv=>whnf)
 refine CJ (ι:=Nat) (λp=>[(1,.H .box (ac.enc .V h)),(3,.H .box (aL.enc .V (tbl h))),(4,.H .one [I (fk h)]),(5,.H .one (aH .own S2)),(11,.H .one [I ((p:Nat):Int)])]) (λp=>p<=fk h/\df p (wi h)=true) (λp=>fk h - p) 0 ?_ ⟨X0 _,rfl⟩ λp T=>?_
 ·exact wB
 obtain⟨T,W⟩:=T;by_cases X:p<fk h
 ·have b:=au (xs:=(tbl h).K) X
  have n:=zq h.o (p:Nat) ω
  repeat'(first|refine gE ?_|(conv=>whnf);first|with_reducible (first|refine CE (aa b) ?_|refine Bf.D (λa=>?_) (λa=>?_)|refine Bf.NB (λa=>?_) (λa=>?_))|refine CK (mW S2 _ ω) ⟨⟨rfl,dA _⟩,⟨rfl,rfl⟩,trivial⟩ ?_|refine C9 n ?_|refine Bf.P (λa=>?_) (λa=>?_))
  all_goals first
   | exact Z0 (λz=>[B z]) ((Gz (cC X (by unfold wi;rw[<-c];grind))).symm)
   | ((conv=>whnf);refine CF (p+1) ⟨ω,bU W (by unfold wi;rw[<-c];grind)⟩ ω ?_;(exact wB))
 repeat'(first|refine gE ?_|fail)
 obtain rfl:p=fk h:=ω
 exact Z0 (λz=>[B z]) ((yz J M t W).symm)
set_option maxHeartbeats 8000000
def B9{z1 z2:Int}(h:z1=z2):Rk (I z1) (I z2):=by subst h;rfl
theorem JZ : z∈ins S p↔z∈S\/z=p:=by grind [ins]
theorem yB(S:List Int):(fT S).map (·.1)=S:=by unfold fT;rw[List.map_map];simp[W6]
theorem m6{t:aL}{p:Nat}(a:p<t.K.length):af t (p:Nat)=nth t.K p:=by grind [af]
theorem Dv(h:ac)(G:dB h.J)(H:dP h.M)(d:yw h)(J:gG h.o)(u:bt h.J h.M=true):zzA 77 false [.val (some 24) (ac.enc .V h)] .one [B (pages0 h&&pP h)]:=by
 have hl1:=G.1;have hl2:=H.1;have hl3:fk h<=1048576:=d.1;have hl4:=J.1;have b:pages0 h=false->[B false]=[B (pages0 h&&pP h)]:=ψ
 refine fO 177 [(4,14,[25,26,27,28,29,30,31,32,33,34,35,36,37,38]),(16,14,[60,61,62,63,64,65,66,67,68,69,70,71,72,73]),(28,18,[102,103,104,105,106,107,108,109,110,111,112,113,114,115,116,117,118,119]),(42,23,[152,153,154,155,156,157,158,159,160,161,162,163,164,165,166,167,168,169,170,171,172,173,174])] Tryz.func77 rfl ?_
 repeat'(first|refine gP ?_|fail)
 (conv=>whnf)
 refine CJ (ι:=Nat) (λi=>[(1,.H .box (ac.enc .V h)),(18,.H .one (cE .V h.J)),(19,.H .one [I (h.J.length)]),(20,.H .one [I ((i:Nat):Int)])]) (λi=>i<=h.J.length/\df i (yQ h.J)=true) (λi=>h.J.length - i) 0 ?_ ⟨X0 _,rfl⟩ λi g=>?_
 ·exact wB
 obtain⟨g,C⟩:=g;by_cases o:i<h.J.length
 ·have e:=au o
  repeat'(first|refine gE ?_|(conv=>whnf);first|with_reducible (first|refine CE (aa e) ?_|refine Bf.D (λa=>?_) (λa=>?_))|refine CO ω (aa (gu ω o)) ?_)
  all_goals first
   |exact b (Fy (cC o (W0 ω)))
   | ((conv=>whnf);refine CF (i+1) ⟨ω,bU C (O0 ω)⟩ ω ?_;(exact wB))
 obtain rfl:i=h.J.length:=ω
 repeat'(first|refine gE ?_|fail)
 (conv=>whnf)
 refine CJ (ι:=Nat × List Int) (λi=>[(1,.H .box (ac.enc .V h)),(5,.H .one [.m (fT i.2)]),(42,.H .one (cE .V h.J)),(43,.H .one [I (h.J.length)]),(44,.H .one [I ((i.1:Nat):Int)])]) (λi=>i.1<=h.J.length/\∀z,z∈i.2↔z∈(h.J.take i.1).map (·.Q)) (λi=>h.J.length - i.1) ((0,[])) ?_ ψ λi g=>?_
 ·exact wB
 obtain⟨i,S⟩:=i;obtain⟨K,Z⟩:=g;simp only at K Z |-;by_cases li2:i<h.J.length
 ·have e:=au li2
  repeat'(first|refine gE ?_|(conv=>whnf);first|with_reducible refine CE (aa e) ?_|refine Mu.mk (yl S _) ?_)
  ((conv=>whnf);refine CF (i+1,ins S (nth h.J i).Q) ⟨(by simp only;omega),λz=>by grind [JZ,I6]⟩ (by simp only;omega) ?_;(exact wB))
 obtain rfl:i=h.J.length:=ω
 rw[X5]at Z
 repeat'(first|refine gE ?_|fail)
 (conv=>whnf)
 refine CJ (ι:=Nat × List Int) (λk=>[(1,.H .box (ac.enc .V h)),(5,.H .one [.m (fT k.2)]),(53,.H .one (cz .V h.M)),(54,.H .one [I (h.M.length)]),(55,.H .one [I ((k.1:Nat):Int)])]) (λk=>k.1<=h.M.length/\(∀z,z∈k.2↔z∈pgs h.J (h.M.take k.1))/\df k.1 (tc h)=true) (λk=>h.M.length - k.1) ((0,S)) ?_ (⟨X0 _,λz=>by grind [pgs],rfl⟩) λk L=>?_
 ·exact wB
 obtain⟨k,S2⟩:=k;obtain⟨L,c,M⟩:=L;simp only at L c M |-;by_cases F:k<h.M.length
 ·have e:=au F
  have hpg:=uJ u e
  repeat'(first|refine gE ?_|(conv=>whnf);first|with_reducible (first|refine CE (aa e) ?_|refine Bf.D (λa=>?_) (λa=>?_))|refine CO ω (aa (gu ω F)) ?_)
  all_goals first
   |exact b (tH (cC F (NK (W0 ω))))
   |have l:xw h.M k=true:=O0 ω
    (conv=>whnf)
    refine CJ (ι:=Nat × List Int) (λq=>[(1,.H .box (ac.enc .V h)),(5,.H .one [.m (fT q.2)]),(9,.H .box (aC.enc .V (nth h.M k))),(10,.H .one [I ((nth h.M k).Q+(q.1:Nat))]),(53,.H .one (cz .V h.M)),(54,.H .one [I (h.M.length)]),(55,.H .one [I ((k:Nat):Int)])]) (λq=>q.1<=(nth h.M k).a2.toNat/\(∀z,z∈q.2↔z∈S2++lpgs (nth h.M k) q.1)/\df q.1 (xb h (nth h.M k))=true) (λq=>(nth h.M k).a2.toNat - q.1) ((0,S2)) ?_ (⟨X0 _,λz=>by simp[lpgs],rfl⟩) λq a=>?_
    ·exact wB
    obtain⟨q,O⟩:=q;obtain⟨Q,n,R⟩:=a;simp only at Q n R |-;by_cases lq:q<(nth h.M k).a2.toNat
    ·have hfl:=gk h ((nth h.M k).Q+(q:Nat))
     repeat'(first|refine gE ?_|(conv=>whnf);first|with_reducible refine Bf.N (λa=>?_) (λa=>?_)|refine C9 (o8 h _ d) ?_|refine Mu.mk (yl O _) ?_)
     all_goals first
      |exact b (tH (cC F (MQ lq (W0 ω))))
      | ((conv=>whnf)
         refine CF (q+1,ins O ((nth h.M k).Q+(q:Nat))) ⟨(by simp only;omega),λz=>by simp only[JZ,n];rw[kY];simp[or_assoc],bU R (O0 ω)⟩ (by simp only;omega) ?_
         (repeat'(first|exact trivial|rfl|refine CM ?_ ?_|exact B9 (by simp;omega))))
    obtain rfl:q=(nth h.M k).a2.toNat:=ω
    repeat'(first|refine gE ?_|fail)
    ((conv=>whnf);refine CF (k+1,O) ⟨(by simp only;omega),(λz=>by simp only[n];rw[pK _ e];simp[c]),bU M (E2 l R)⟩ (by simp only;omega) ?_;(exact wB))
 obtain rfl:k=h.M.length:=ω
 rw[X5]at c
 repeat'(first|refine gE ?_|fail)
 (conv=>whnf)
 refine CJ (ι:=Nat) (λp=>[(1,.H .box (ac.enc .V h)),(5,.H .one [.m (fT S2)]),(98,.H .one [I (fk h)]),(99,.H .one [I ((p:Nat):Int)])]) (λp=>p<=fk h/\df p (wi h)=true) (λp=>fk h - p) 0 ?_ ⟨X0 _,rfl⟩ λp hp=>?_
 ·exact wB
 obtain⟨hp,ap⟩:=hp;by_cases lp:p<fk h
 ·have T:=zM h.o (p:Nat) ω
  have w:=pj h.G (p:Nat) d;rw[m6 lp]at w
  repeat'(first|refine gE ?_|(conv=>whnf);first|with_reducible (first|refine Bf.D (λa=>?_) (λa=>?_)|refine Bf.NB (λa=>?_) (λa=>?_))|refine C9 w ?_|refine Ml.mk (nv (p:Nat) S2) ?_|refine C9 T ?_|refine Bf.P (λa=>?_) (λa=>?_))
  all_goals first
   |exact b (Gz (cC lp (by unfold wi tbl;have:=c (p:Nat);grind)))
   | ((conv=>whnf);refine CF (p+1) ⟨ω,bU ap (by unfold wi tbl;have:=c (p:Nat);grind)⟩ ω ?_;(exact wB))
 obtain rfl:p=fk h:=ω
 repeat'(first|refine gE ?_|fail)
 have hpn:fk h=h.G.F.R.K.length:=rfl
 (conv=>whnf)
 refine CJ (ι:=Option Int × List Int) (λt=>[(1,.H .box (ac.enc .V h)),(122,.H .one [.it t.1 t.2])]) (λt=>(∀z∈S2,z∈t.2\/z<fk h)/\∀z∈t.2,z∈S2) (λt=>t.2.length) ((none,(fT S2).map (·.1))) ?_ (⟨λz hz=>.inl (by grind [yB]),λz hz=>by grind [yB]⟩) λt ht=>?_
 ·exact wB
 obtain⟨cur,left⟩:=t;obtain⟨U,V⟩:=ht;simp only at U V |-
 repeat'(first|refine gP ?_|(conv=>whnf);first|with_reducible refine Bf.D (λa=>?_) (λa=>?_)|refine Nt.mk (λa=>?_) (λl1 k l2 a=>?_))
 rotate_left
 ·exact b (GC (p:=k) ψ ω)
 ·((conv=>whnf);refine CF (some k,l1++l2) ψ (by subst left;simp) ?_;(exact wB))
 have y:∀p∈pgs h.J h.M,p<fk h:=ψ
 have h0:pages0 h=true:=yz C M y ap;rw[h0,Bool.true_and]
 (conv=>whnf)
 refine CJ (ι:=Nat) (λi=>[(1,.H .box (ac.enc .V h)),(136,.H .one (cE .V h.J)),(137,.H .one [I (h.J.length)]),(138,.H .one [I ((i:Nat):Int)])]) (λi=>i<=h.J.length/\df i (λi=>df i (mA h i))=true) (λi=>h.J.length - i) 0 ?_ ⟨X0 _,rfl⟩ λi g=>?_
 ·exact wB
 obtain⟨g,C⟩:=g;by_cases o:i<h.J.length
 ·have e:=au o
  have W:(h.J.take i).length=i:=ψ
  repeat'(first|refine gE ?_|(conv=>whnf);first|with_reducible refine CE (aa e) ?_|refine CY i rfl (by simp;omega) (λr T=>by obtain⟨z,-,rfl⟩:=Y4.1 T;rfl) (W4 ..) ?_)
  (conv=>whnf)
  refine CJ (ι:=Nat) (λj=>[(1,.H .box (ac.enc .V h)),(14,.H .box (aA.enc .V (nth h.J i))),(136,.H .one (cE .V h.J)),(137,.H .one [I (h.J.length)]),(138,.H .one [I ((i:Nat):Int)]),(146,.H .one (cE .V (h.J.take i))),(147,.H .one [I ((h.J.take i).length)]),(148,.H .one [I ((j:Nat):Int)])]) (λj=>j<=(h.J.take i).length/\df j (mA h i)=true) (λj=>(h.J.take i).length - j) 0 ?_ ⟨X0 _,rfl⟩ λj hj=>?_
  ·exact wB
  obtain⟨hj,X⟩:=hj;by_cases lj:j<(h.J.take i).length
  ·have hy:=au lj
   have he:nth (h.J.take i) j=nth h.J j:=bk (by grind [au]);rw[he]at hy;have w:=z7 (nth h.J i) (nth h.J j);cases Y:meshable (nth h.J i) (nth h.J j)<;>rw[Y]at w
   all_goals
    repeat'(first|refine gE ?_|(conv=>whnf);first|with_reducible (first|refine CE (aa hy) ?_|refine Bf.E (λa=>?_) (λa=>?_))|refine C9 (jf (tbl h) _ d) ?_|refine C9 w ?_)
    all_goals first
     | exact Z0 (λz=>[B z]) ((by symm;exact cC o (cC (i:=j) ω (by unfold mA;rw[Y];grind))))
     | ((conv=>whnf);refine CF (j+1) ⟨ω,bU X (by unfold mA;rw[Y];grind)⟩ ω ?_;(exact wB))
  obtain rfl:j=(h.J.take i).length:=ω
  rw[W]at X
  repeat'(first|refine gE ?_|fail)
  ((conv=>whnf);refine CF (i+1) ⟨ω,bU C X⟩ ω ?_;(exact wB))
 obtain rfl:i=h.J.length:=ω
 repeat'(first|refine gE ?_|fail)
 exact Z0 (λz=>[B z]) ((by grind [pP]))
set_option maxHeartbeats 8000000
def lZ[Inhabited α](pr:α->Bool)(xs:List α):cU pr xs = -1\/∃n,n<xs.length/\cU pr xs=(n:Nat)/\pr (nth xs n)=true:=by
 unfold cU;cases h:xs.findIdx? pr with
 | none=>exact .inl rfl
 | some i=>
  obtain⟨a,b,-⟩:=Y7.1 h;exact .inr ⟨i,a,rfl,by rw[bk (X2 a)];exact b⟩
def FP(a:i<h.J.length)(b:k<(aT h (nth h.J i).Q).length)(c:mu h i (nth (aT h (nth h.J i).Q) k)=false):vw h=false:=by
 unfold vw;exact cC a (gy (au b) c)
theorem Ea(h:ac)(j:dB h.J)(c:yw h):zzA 212 false [.val (some 24) (ac.enc .V h)] .one [B (vw h)]:=by
 have l:=j.1;have E:fk h<=1048576:=c.1;refine fO 55 [(4,8,[14,15,16,17,18,19,20,21]),(8,6,[28,29,30,31,32,33]),(9,21,[34,35,36,37,38,39,40,41,42,43,44,45,46,47,48,49,50,51,52,53,54])] Tryz.func212 rfl ?_
 repeat'(first|refine gP ?_|fail)
 (conv=>whnf)
 refine CJ (ι:=Nat) (λi=>[(1,.H .box (ac.enc .V h)),(3,.H .one [I ((i:Nat):Int)])]) (λi=>i<=h.J.length/\df i (λi=>(aT h (nth h.J i).Q).all (mu h i))=true) (λi=>h.J.length - i) 0 ?_ ⟨X0 _,rfl⟩ λi w=>?_
 ·exact wB
 obtain⟨w,F⟩:=w;by_cases o:i<h.J.length
 ·have q:=au o
  have G:=gk h (nth h.J i).Q
  repeat'(first|refine gE ?_|(conv=>whnf);first|with_reducible refine CE (aa q) ?_|refine C9 (iw h _ c) ?_)
  (conv=>whnf)
  refine CJ (ι:=Nat) (λk=>[(1,.H .box (ac.enc .V h)),(3,.H .one [I ((i:Nat):Int)]),(4,.H .one (aH .own (aT h (nth h.J i).Q))),(5,.H .one [I ((k:Nat):Int)])]) (λk=>k<=(aT h (nth h.J i).Q).length/\((aT h (nth h.J i).Q).take k).all (mu h i)=true) (λk=>(aT h (nth h.J i).Q).length - k) (0) ?_ ψ λk y=>?_
  ·exact wB
  obtain⟨y,H⟩:=y;by_cases r:k<(aT h (nth h.J i).Q).length
  ·have d:=au r
   have a:=jZ h (nth (aT h (nth h.J i).Q) k) l;rcases lZ (mt (nth (aT h (nth h.J i).Q) k)) h.J with g|⟨n,J,g,-⟩
   ·rw[show gL h (nth (aT h (nth h.J i).Q) k) = -1 from g]at a
    have t:mu h i (nth (aT h (nth h.J i).Q) k)=false:=by grind [mu,gL]
    repeat'(first|refine gE ?_|(conv=>whnf);first|with_reducible (first|refine CE (aa q) ?_|refine CE (aa d) ?_|refine Bf.D (λb=>?_) (λb=>?_)|refine Bf.N (λb=>?_) (λb=>?_))|refine CG rfl (aa d) rfl ?_|refine C9 a ?_)
    all_goals first
     | exact Z0 (λz=>[B z]) ((FP o r t).symm)
     |(exfalso;omega)
   rw[show gL h (nth (aT h (nth h.J i).Q) k)=(n:Nat) from g]at a;have K:=au J;have C:=mE (nth h.J i) (nth h.J n);have e:mu h i (nth (aT h (nth h.J i).Q) k)=(decide ((n:Int)=(i:Nat)) || meshable (nth h.J i) (nth h.J n)):=by
    unfold mu;rw[show gL h (nth (aT h (nth h.J i).Q) k)=(n:Nat) from g,O0 (p:=(0:Int)<=(n:Nat)) ω];simp
   cases u:meshable (nth h.J i) (nth h.J n)<;>rw[u]at C
   all_goals
    repeat'(first|refine gE ?_|(conv=>whnf);first|with_reducible (first|refine CE (aa q) ?_|refine CE (aa K) ?_|refine CE (aa d) ?_|refine Bf.D (λb=>?_) (λb=>?_)|refine Bf.N (λb=>?_) (λb=>?_))|refine CG rfl (aa d) rfl ?_|refine C9 a ?_|refine C9 C ?_)
    all_goals first
     | exact Z0 (λz=>[B z]) ((FP o r (by rw[e,u];grind)).symm)
     | ((conv=>whnf);refine CF (k+1) ⟨ω,cX d H (by rw[e,u];grind)⟩ ω ?_;(exact wB))
     |(exfalso;omega)
  repeat'(first|refine gE ?_|fail)
  ((conv=>whnf);refine CF (i+1) ⟨ω,bU F ψ⟩ ω ?_;(exact wB))
 obtain rfl:i=h.J.length:=ω
 repeat'(first|refine gE ?_|fail)
 exact Z0 (λz=>[B z]) ((by grind [vw]))
def Le(j:cJ)(b:cJ.sml j):zzA 217 false [.val (some 5) (cJ.enc .V j)] .one [B (sR j)]:=by
 have c:j.X.T.length<=1048576:=b;refine fO 30 [] Tryz.func217 rfl ?_
 repeat'(first|refine gP ?_|(conv=>whnf);first|with_reducible (first|refine Bf.E (λa=>?_) (λa=>?_)|refine Bf.D (λa=>?_) (λa=>?_)))
 all_goals exact Z0 (λz=>[B z]) ((by unfold sR;first|(symm;exact W0 ω)|(rw[C5,beq_iff_eq,C0];omega)))
theorem n9(sp:List aA)(la:List aC)(a:Int):((denotes sp la a).b3=1->0<=(denotes sp la a).c2/\(denotes sp la a).c2.toNat<sp.length)/\((denotes sp la a).b3=3->0<=(denotes sp la a).c2/\(denotes sp la a).c2.toNat<la.length):=by grind [Y7,denotes,oM]
theorem He(h:ac)(a c:Int)(d:dB h.J)(e:dP h.M)(b:bt h.J h.M=true)(k:np a):zzA 363 false [.val (some 24) (ac.enc .V h),.val none [I a],.val none [I c]] .one [B (dy h a c)]:=by
 have j:=og h.J h.M a d e b k;obtain⟨g,-⟩:=n9 h.J h.M a;unfold dy;generalize denotes h.J h.M a=w at j g |-;refine fO 37 [] Tryz.func363 rfl ?_
 repeat'(first|refine gP ?_|(conv=>whnf);first|with_reducible (first|refine Bf.D (λi=>?_) (λi=>?_)|refine Bf.E (λi=>?_) (λi=>?_))|refine C9 j ?_|refine CO (g (by assumption)).1 (aa (au (g (by assumption)).2)) ?_)
 all_goals exact Z0 (λz=>[B z]) (ψ)
theorem B7(h:ac)(o:bo)(w:jB)(a:denotes h.J h.M o.Addr=w):jb h o=(decide (w.c3=0)&&((decide (w.b3=1)&&decide ((nth h.J w.c2.toNat).d=aK o.q)) || (decide (w.b3=3)&&decide ((nth h.M w.c2.toNat).q=o.q)))):=by grind [jb]
def jw(a:i<h.O.length)(b:objAt (IntKind.i64.wrap (h.b - 1)) h i=false):fY h=false:=cC a b
theorem Kf(h1:gS a h i=false):objAt a h i=false:=by grind [objAt]
theorem Kr(h1:(h.O.take i).any (fg (nth h.O i).Id)=true):objAt a h i=false:=by grind [objAt]
theorem J4(h1:jb h (nth h.O i)=false):objAt a h i=false:=by grind [objAt]
theorem AP(h1:gS a h i=true)(b:(h.O.take i).any (fg (nth h.O i).Id)=false)(c:jb h (nth h.O i)=true):objAt a h i=true:=by grind [objAt]
theorem Jn(h:ac)(l:dB h.J)(n:dP h.M)(g:bt h.J h.M=true)(K:h.O.length<=1048576)(L:h.S.length<=1048576)(H:∀o∈h.O,np o.Addr):zzA 215 false [.val (some 24) (ac.enc .V h)] .one [B (fY h)]:=by
 refine fO 117 [(5,33,[21,22,23,24,25,26,27,28,29,30,31,32,33,34,35,36,37,38,39,40,41,42,43,44,45,46,47,48,49,50,51,52,53]),(10,9,[59,60,61,62,63,64,65,66,67]),(13,16,[75,76,77,78,79,80,81,82,83,84,85,86,87,88,89,90]),(14,15,[91,92,93,94,95,96,97,98,99,100,101,102,103,104,105])] Tryz.func215 rfl ?_
 repeat'(first|refine gP ?_|fail)
 (conv=>whnf)
 refine CJ (ι:=Nat) (λi=>[(1,.H .box (ac.enc .V h)),(3,.H .one [I ((i:Nat):Int)])]) (λi=>i<=h.O.length/\df i (objAt (IntKind.i64.wrap (h.b - 1)) h)=true) (λi=>h.O.length - i) 0 ?_ ⟨X0 _,rfl⟩ λi t=>?_
 ·exact wB
 obtain⟨t,u⟩:=t;by_cases e:i<h.O.length
 ·have y:=au e
  have C:=og h.J h.M (nth h.O i).Addr l n g (H _ (ar e));obtain⟨p,q⟩:=n9 h.J h.M (nth h.O i).Addr;have b:=B7 h (nth h.O i) _ rfl;generalize denotes h.J h.M (nth h.O i).Addr=w at C p q b;by_cases c:gS (IntKind.i64.wrap (h.b - 1)) h i=true
  ·have a:=c
   unfold gS at a;rw[C0]at a
   repeat'(first|refine gE ?_|(conv=>whnf);first|with_reducible (first|refine CE (aa y) ?_|refine Bf.D (λd=>?_) (λd=>?_))|refine CO ω (aa (gu ω e)) ?_|refine C9 (aJ _ _ _) ?_|refine CN rfl ?_)
   all_goals
    (conv=>whnf)
    refine CJ (ι:=Nat) (λk=>[(1,.H .box (ac.enc .V h)),(3,.H .one [I ((i:Nat):Int)]),(4,.H .box (bo.enc .V (nth h.O i))),(5,.H .one [I ((k:Nat):Int)])]) (λk=>k<=i/\(h.O.take k).any (fg (nth h.O i).Id)=false) (λk=>i - k) (0) ?_ (⟨X0 _,rfl⟩) λk F=>?_
    ·exact wB
    obtain⟨F,G⟩:=F;by_cases J:k<i
    ·have r:=au (xs:=h.O) (i:=k) ω
     repeat'(first|refine gE ?_|(conv=>whnf);first|with_reducible (first|refine CE (aa r) ?_|refine Bf.E (λd=>?_) (λd=>?_)))
     all_goals first
      | exact Z0 (λz=>[B z]) ((jw e (Kr (Ec (i:=k) (by rw[List.getElem?_take_of_lt J];exact r) (O0 (by assumption))))).symm)
      | ((conv=>whnf);refine CF (k+1) ⟨ω,x8 r G (W0 (by assumption))⟩ ω ?_;(exact wB))
    obtain rfl:k=i:=ω
    repeat'(first|refine gE ?_|(conv=>whnf);first|with_reducible (first|refine Bf.D (λd=>?_) (λd=>?_)|refine Bf.E (λd=>?_) (λd=>?_)|refine Bf.N (λd=>?_) (λd=>?_))|refine C9 C ?_|refine CO (p (by assumption)).1 (aa (au (p (by assumption)).2)) ?_|refine CO (q (by assumption)).1 (aa (au (q (by assumption)).2)) ?_|refine C9 (kM _) ?_)
    all_goals first
     | exact Z0 (λz=>[B z]) ((jw e (J4 (by rw[b];grind))).symm)
     | ((conv=>whnf);refine CF (k+1) ⟨ω,bU u (AP c G (by rw[b];grind))⟩ ω ?_;(exact wB))
     |(exfalso;omega)
  have j:gS (IntKind.i64.wrap (h.b - 1)) h i=false:=by simpa using c
  have a:=j;unfold gS at a;rw[z5]at a
  repeat'(first|refine gE ?_|(conv=>whnf);first|with_reducible (first|refine CE (aa y) ?_|refine Bf.D (λd=>?_) (λd=>?_))|refine CO ω (aa (gu ω e)) ?_|refine C9 (aJ _ _ _) ?_|refine CN rfl ?_)
  all_goals first
   | exact Z0 (λz=>[B z]) ((jw e (Kf j)).symm)
   |(exfalso;omega)
 obtain rfl:i=h.O.length:=ω
 repeat'(first|refine gE ?_|fail)
 exact Z0 (λz=>[B z]) ((show true=fY h from u.symm))
theorem qn(o a:bo):zzA 234 false [.val (some 4) (bo.enc .V o),.ptr (bo.enc .V a)] .one [B (fg a.Id o)]:=by
 refine fO 9 [] Tryz.func234 rfl ?_
 repeat'(first|refine gP ?_|fail)
 grind [fg]
theorem Gt(h:ac)(n:dB h.J)(o:dP h.M)(J:h.O.length<=1048576)(K:h.S.length<=1048576):zzA 81 false [.val (some 24) (ac.enc .V h)] .one [B (fY h)]:=by
 refine fO 105 [(4,33,[16,17,18,19,20,21,22,23,24,25,26,27,28,29,30,31,32,33,34,35,36,37,38,39,40,41,42,43,44,45,46,47,48]),(9,16,[62,63,64,65,66,67,68,69,70,71,72,73,74,75,76,77]),(10,15,[78,79,80,81,82,83,84,85,86,87,88,89,90,91,92])] Tryz.func81 rfl ?_
 repeat'(first|refine gP ?_|fail)
 (conv=>whnf)
 refine CJ (ι:=Nat) (λi=>[(1,.H .box (ac.enc .V h)),(9,.H .one (nA .V h.O)),(10,.H .one [I (h.O.length)]),(11,.H .one [I ((i:Nat):Int)])]) (λi=>i<=h.O.length/\df i (objAt (IntKind.i64.wrap (h.b - 1)) h)=true) (λi=>h.O.length - i) 0 ?_ ⟨X0 _,rfl⟩ λi F=>?_
 ·exact wB
 obtain⟨F,G⟩:=F;by_cases g:i<h.O.length
 ·have p:=au g
  have H:=sf h.J h.M (nth h.O i).Addr n o;obtain⟨q,t⟩:=n9 h.J h.M (nth h.O i).Addr;have b:=B7 h (nth h.O i) _ rfl;generalize denotes h.J h.M (nth h.O i).Addr=w at H q t b;have j:=uR (h.O.take i) (fg (nth h.O i).Id) ψ;by_cases c:gS (IntKind.i64.wrap (h.b - 1)) h i=true
  ·have a:=c
   unfold gS at a;rw[C0]at a;cases d:(h.O.take i).any (fg (nth h.O i).Id)<;>rw[d]at j
   ·repeat'(first|refine gE ?_|(conv=>whnf);first|with_reducible (first|refine CE (aa p) ?_|refine Bf.D (λe=>?_) (λe=>?_)|refine Bf.E (λe=>?_) (λe=>?_)|refine Bf.N (λe=>?_) (λe=>?_))|refine CO ω (aa (gu ω g)) ?_|refine C9 (aN _ _ _) ?_|refine CY i rfl (by simp;omega) (λr u=>by obtain⟨z,-,rfl⟩:=Y4.1 u;rfl) (W4 ..) ?_|refine Cq.mk (G4 (some 4) (bo.enc .V) (fg (nth h.O i).Id) (h.O.take i)) (qn default (nth h.O i)).has (λL k rcs C=>by obtain⟨y,-,rfl,rfl,rfl⟩:=C;exact qn y (nth h.O i)) ?_|refine C9 j ?_|refine C9 H ?_|refine CO (q (by assumption)).1 (aa (au (q (by assumption)).2)) ?_|refine CO (t (by assumption)).1 (aa (au (t (by assumption)).2)) ?_|refine C9 (ta _) ?_|refine CN rfl ?_)
    all_goals first
     | exact Z0 (λz=>[B z]) ((jw g (J4 (by rw[b];grind))).symm)
     | ((conv=>whnf);refine CF (i+1) ⟨ω,bU G (AP c d (by rw[b];grind))⟩ ω ?_;(exact wB))
     |(exfalso;omega)
   repeat'(first|refine gE ?_|(conv=>whnf);first|with_reducible (first|refine CE (aa p) ?_|refine Bf.D (λe=>?_) (λe=>?_))|refine CO ω (aa (gu ω g)) ?_|refine C9 (aN _ _ _) ?_|refine CY i rfl (by simp;omega) (λr u=>by obtain⟨z,-,rfl⟩:=Y4.1 u;rfl) (W4 ..) ?_|refine Cq.mk (G4 (some 4) (bo.enc .V) (fg (nth h.O i).Id) (h.O.take i)) (qn default (nth h.O i)).has (λL k rcs C=>by obtain⟨y,-,rfl,rfl,rfl⟩:=C;exact qn y (nth h.O i)) ?_|refine C9 j ?_|refine CN rfl ?_)
   all_goals first
    | exact Z0 (λz=>[B z]) ((jw g (Kr d)).symm)
    |(exfalso;omega)
  have l:gS (IntKind.i64.wrap (h.b - 1)) h i=false:=by simpa using c
  have a:=l;unfold gS at a;rw[z5]at a
  repeat'(first|refine gE ?_|(conv=>whnf);first|with_reducible (first|refine CE (aa p) ?_|refine Bf.D (λe=>?_) (λe=>?_))|refine CO ω (aa (gu ω g)) ?_|refine C9 (aN _ _ _) ?_|refine CN rfl ?_)
  all_goals first
   | exact Z0 (λz=>[B z]) ((jw g (Kf l)).symm)
   |(exfalso;omega)
 obtain rfl:i=h.O.length:=ω
 repeat'(first|refine gE ?_|fail)
 exact Z0 (λz=>[B z]) ((show true=fY h from G.symm))
set_option maxHeartbeats 8000000
theorem LB(h:k7 sp la n=true):lW sp la (n+1)=lW sp la n++[(n:Int)]:=by grind [List.range_succ,lW]
theorem PB(h:k7 sp la n=false):lW sp la (n+1)=lW sp la n:=by grind [List.range_succ,lW]
theorem Ay(sp:List aA)(la:List aC)(n:Nat):(lW sp la n).length<=n:=by grind [lW]
theorem sZ{w:jB}(a:denotes sp la (n:Nat)=w):k7 sp la n=(decide (w.c3=0)&&(decide (w.b3=1) || decide (w.b3=3))):=by grind [k7]
def Qq(h:n<=1048576):np (n:Nat):=⟨ω,ω⟩
theorem wK(sp:List aA)(la:List aC)(c:dB sp)(d:dP la)(a:bt sp la=true):zzA 364 false [.val none (cE .V sp),.val none (cz .V la)] .one (aH .own (kF sp la)):=by
 have g:=mr sp la c d;rw[a]at g;refine fO 40 [] Tryz.func364 rfl ?_ (.inr (bO _))
 repeat'(first|refine gP ?_|fail)
 (conv=>whnf)
 refine CJ (ι:=Nat) (λn=>[(0,.H .one (cE .V sp)),(1,.H .one (cz .V la)),(5,.H .one (aH .own (lW sp la n))),(6,.H .one [I ((n:Nat):Int)])]) (λn=>n<=512) (λn=>512 - n) (0) ?_ (X0 _) λn o=>?_
 ·exact wB
 have i:=Ay sp la n;by_cases p:n<512
 ·have h:=og sp la (n:Nat) c d a (Qq ω)
  generalize j:denotes sp la (n:Nat)=w at h;have e:=sZ j
  repeat'(first|refine gE ?_|(conv=>whnf);first|with_reducible refine Bf.E (λk=>?_) (λk=>?_)|refine C9 g ?_|refine C9 h ?_|refine CV cB (λr l=>by rw[V1.1 l];rfl) (by simp[bj,ed]) (by simp;omega) (by simp only[I1];exact zh (by simp;omega) (by decide)) rfl ?_)
  all_goals first
   |(have b:k7 sp la n=true:=by rw[e];grind
     (conv=>whnf)
     refine CF (n+1) ω ω ?_;rw[LB b]
     (repeat'(first|exact trivial|rfl|exact CM rfl (CM (Z0 (C.s dR.own) (by simp[rI])) trivial)|refine CM ?_ ?_)))
   |(have b:k7 sp la n=false:=by rw[e];grind
     (conv=>whnf)
     refine CF (n+1) ω ω ?_;rw[PB b]
     (exact wA))
 obtain rfl:n=512:=ω
 repeat'(first|refine gE ?_|(conv=>whnf);first|refine C9 g ?_)
 rfl
theorem yv(m:aM)(a:m.y.length=m.U.length):∀i,i<=m.U.length->(((flight1 m i).length+(flight2 m i).length:Nat):Int)=bC m i
 | 0,_=>rfl
 | i+1,h=>by
  have d:=yv m a i ω;have b:=au (xs:=m.U) (i:=i) ω;have c:=au (xs:=m.y) (i:=i) ω;rw[nM b,oh c];simp only[Y3,I1];show _=bC m i+((nth m.U i).length+(nth m.y i).length);omega
theorem tw(h:bR m=true):(aQ m).length<=30:=by grind [yv,pJ,bR]
def ET(d:aM.wf m):∀a∈aQ m,np a:=by
 intro a b;unfold aQ at b;split at b
 ·rcases V3.1 b with h|h
  ·obtain⟨l,c,h⟩:=List.mem_flatMap.1 h
   obtain⟨p,e,rfl⟩:=Y4.1 h;exact((d.1.2 l c).2 p e).2
  obtain⟨l,c,h⟩:=List.mem_flatten.1 h;exact(d.2.2 l c).2 a h
 cases b
theorem KT(h1:h.S.all (fh h)=false):kg h=false:=by grind [kg,jH]
theorem Mf(h1:h.a7.a6.all (ir h)=false):kg h=false:=by grind [kg,jH]
theorem Mc(h1:(aQ h.w).all (kN h)=false):kg h=false:=by grind [kg,jH]
theorem LK(a:i<(holders h).length)(b:nth (holders h) i∈(holders h).take i):kg h=false:=by
 have c:decide (holders h).Nodup=false:=Pj (S:=(holders h).take i) (p:=nth (holders h) i) (by
   have:=au a;have e:(holders h).take i++[nth (holders h) i]=(holders h).take (i+1):=by grind [I6]
   grind) b
 grind [kg]
theorem uZ(a:h.S[i]? = some c):((h.S.take (i+1)).flatMap λc=>c.a.flatten)=((h.S.take i).flatMap λc=>c.a.flatten)++c.a.flatten:=by grind [I6]
theorem xZ(a:c.a[k]? = some l):(c.a.take (k+1)).flatten=(c.a.take k).flatten++l:=by grind [I6]
theorem HT(h:ac)(hs:ac.sml h)(hw:ac.wf h)(t:bt h.J h.M=true)(w:bR h.w=true)(W:∀c∈h.S,b9 c=true):zzA 216 false [.val (some 24) (ac.enc .V h)] .one [B (kg h)]:=by
 obtain⟨-,-,G,H,X,Y,Z,hsq,-⟩:=hs;obtain⟨-,-,-,-,-,hwc,hwm,hwq,-⟩:=hw;have hlo:h.O.length<=1048576:=X.1;have hlc:h.S.length<=1048576:=Y.1;have hlq:h.a7.a6.length<=1048576:=hsq.1;have hfl:=tw w;have hfw:=ET hwm;have y:∀a c,np a->zzA 363 false [.val (some 24) (ac.enc .V h),.val none [I a],.val none [I c]] .one [B (dy h a c)]:=λa c ha=>He h a c G H t ha
 refine fO 159 [(16,8,[63,64,65,66,67,68,69,70]),(22,17,[86,87,88,89,90,91,92,93,94,95,96,97,98,99,100,101,102]),(29,7,[122,123,124,125,126,127,128]),(35,8,[142,143,144,145,146,147,148,149])] Tryz.func216 rfl ?_
 repeat'(first|refine gP ?_|fail)
 (conv=>whnf)
 refine CJ (ι:=Nat × List Int) (λi=>[(1,.H .box (ac.enc .V h)),(3,.H .one (aH .own i.2)),(4,.H .one [I ((i.1:Nat):Int)])]) (λi=>i.1<=h.O.length/\i.2=(h.O.take i.1).map (·.Addr)) (λi=>h.O.length - i.1) ((0,[])) ?_ ψ λi u=>?_
 ·exact wB
 obtain⟨i,S⟩:=i;obtain⟨u,Q⟩:=u;simp only at u Q |-;have hSl:S.length=i:=ψ
 by_cases li:i<h.O.length
 ·have E:=au li
  repeat'(first|refine gE ?_|(conv=>whnf);first|with_reducible refine CE (aa E) ?_|refine CV cB (λr l=>by rw[V1.1 l];rfl) (by simp[bj,ed]) (by simp;omega) (by simp only[I1];exact zh (by simp;omega) (by decide)) rfl ?_)
  ((conv=>whnf)
   refine CF (i+1,S++[(nth h.O i).Addr]) ⟨(by simp only;omega),(by grind [I6])⟩ (by simp only;omega) ?_
   (repeat'(first|exact trivial|rfl|exact CM rfl (CM (Z0 (C.s dR.own) (by simp[rI])) trivial)|refine CM ?_ ?_)))
 obtain rfl:i=h.O.length:=ω
 rw[X5]at Q
 repeat'(first|refine gE ?_|fail)
 (conv=>whnf)
 refine CJ (ι:=Nat × List Int) (λi=>[(1,.H .box (ac.enc .V h)),(3,.H .one (aH .own i.2)),(5,.H .one [I ((i.1:Nat):Int)])]) (λi=>i.1<=h.S.length/\i.2=S++((h.S.take i.1).flatMap λc=>c.a.flatten)/\(h.S.take i.1).all (fh h)=true/\i.2.length<=1048576+32*i.1) (λi=>h.S.length - i.1) ((0,S)) ?_ ψ λi u=>?_
 ·exact wB
 obtain⟨i,S2⟩:=i;obtain⟨hi2,n,ai,J⟩:=u;simp only at hi2 n ai J |-;by_cases li2:i<h.S.length
 ·have E:=au li2
  obtain⟨h4,h8⟩:=vL (W _ (ar li2));have hwl:=hwc.2 _ (ar li2)
  repeat'(first|refine gE ?_|(conv=>whnf);first|with_reducible refine CE (aa E) ?_)
  (conv=>whnf)
  refine CJ (ι:=Nat × List Int) (λk=>[(1,.H .box (ac.enc .V h)),(3,.H .one (aH .own k.2)),(5,.H .one [I ((i:Nat):Int)]),(6,.H .one [I ((k.1:Nat):Int)])]) (λk=>k.1<=(nth h.S i).a.length/\k.2=S2++((nth h.S i).a.take k.1).flatten/\df k.1 (sF h (nth h.S i))=true/\k.2.length<=S2.length+8*k.1) (λk=>(nth h.S i).a.length - k.1) ((0,S2)) ?_ (⟨X0 _,by simp,rfl,by simp⟩) λk hk=>?_
  ·exact wB
  obtain⟨k,R⟩:=k;obtain⟨hk,K,ak,hb3⟩:=hk;simp only at hk K ak hb3 |-;by_cases T:k<(nth h.S i).a.length
  ·have hy:=au T
   have hl8:=h8 _ (ar T);have hwa:=(hwl.2 _ (ar T)).2
   repeat'(first|refine gE ?_|(conv=>whnf);first|with_reducible (first|refine CE (aa E) ?_|refine CE (aa hy) ?_))
   (conv=>whnf)
   refine CJ (ι:=Nat × List Int) (λj=>[(1,.H .box (ac.enc .V h)),(3,.H .one (aH .own j.2)),(5,.H .one [I ((i:Nat):Int)]),(6,.H .one [I ((k:Nat):Int)]),(7,.H .one (aH .V (nth (nth h.S i).a k))),(8,.H .one [I ((j.1:Nat):Int)])]) (λj=>j.1<=(nth (nth h.S i).a k).length/\j.2=R++(nth (nth h.S i).a k).take j.1/\((nth (nth h.S i).a k).take j.1).all (λa=>dy h a (k:Nat))=true) (λj=>(nth (nth h.S i).a k).length - j.1) ((0,R)) ?_ ψ λj hj=>?_
   ·exact wB
   obtain⟨j,S4⟩:=j;obtain⟨hj,L,U⟩:=hj;simp only at hj L U |-;have hl4:S4.length=R.length+j:=ψ
   by_cases lj:j<(nth (nth h.S i).a k).length
   ·have d:=au lj
    have b:=y (nth (nth (nth h.S i).a k) j) (k:Nat) ψ;cases g:dy h (nth (nth (nth h.S i).a k) j) (k:Nat)<;>rw[g]at b
    ·repeat'(first|refine gE ?_|(conv=>whnf);first|with_reducible refine CE (aa d) ?_|refine C9 b ?_)
     exact Z0 (λz=>[B z]) ((KT (gy E (by unfold fh;exact cC T (gy d g)))).symm)
    repeat'(first|refine gE ?_|(conv=>whnf);first|with_reducible refine CE (aa d) ?_|refine C9 b ?_|refine CV cB (λr l=>by rw[V1.1 l];rfl) (by simp[bj,ed]) (by simp;omega) (by show _*8<=_;simp;omega) rfl ?_)
    ((conv=>whnf)
     refine CF (j+1,S4++[nth (nth (nth h.S i).a k) j]) ⟨(by simp only;omega),(by grind [I6]),cX d U g⟩ (by simp only;omega) ?_
     (repeat'(first|exact trivial|rfl|exact CM rfl (CM (Z0 (C.s dR.own) (by simp[rI])) trivial)|refine CM ?_ ?_)))
   obtain rfl:j=(nth (nth h.S i).a k).length:=ω
   rw[X5]at L U
   repeat'(first|refine gE ?_|fail)
   ((conv=>whnf);refine CF (k+1,S4) ⟨(by simp only;omega),(by grind [xZ]),bU ak U,(by simp only;omega)⟩ (by simp only;omega) ?_;(exact wB))
  obtain rfl:k=(nth h.S i).a.length:=ω
  rw[X5]at K
  repeat'(first|refine gE ?_|(conv=>whnf);first|with_reducible refine CE (aa E) ?_)
  ((conv=>whnf);refine CF (i+1,R) ⟨(by simp only;omega),(by grind [uZ]),cX E ai ak,(by simp only;omega)⟩ (by simp only;omega) ?_;(exact wB))
 obtain rfl:i=h.S.length:=ω
 rw[X5]at n ai
 repeat'(first|refine gE ?_|fail)
 (conv=>whnf)
 refine CJ (ι:=Nat × List Int) (λq=>[(1,.H .box (ac.enc .V h)),(3,.H .one (aH .own q.2)),(9,.H .one [I ((q.1:Nat):Int)])]) (λq=>q.1<=h.a7.a6.length/\q.2=S2++(h.a7.a6.take q.1).map (·.Addr)/\(h.a7.a6.take q.1).all (ir h)=true) (λq=>h.a7.a6.length - q.1) ((0,S2)) ?_ ψ λq M=>?_
 ·exact wB
 obtain⟨q,N⟩:=q;obtain⟨F,o,aq⟩:=M;simp only at F o aq |-;have hl5:N.length=S2.length+q:=ψ
 by_cases V:q<h.a7.a6.length
 ·have d:=au V
  have b:=y (nth h.a7.a6 q).Addr (nth h.a7.a6 q).d (hwq.2.2 _ (ar V)).1;cases g:dy h (nth h.a7.a6 q).Addr (nth h.a7.a6 q).d<;>rw[g]at b
  ·repeat'(first|refine gE ?_|(conv=>whnf);first|with_reducible refine CE (aa d) ?_|refine C9 b ?_)
   exact Z0 (λz=>[B z]) ((Mf (gy d g)).symm)
  repeat'(first|refine gE ?_|(conv=>whnf);first|with_reducible refine CE (aa d) ?_|refine C9 b ?_|refine CV cB (λr l=>by rw[V1.1 l];rfl) (by simp[bj,ed]) (by simp;omega) (by show _*8<=_;simp;omega) rfl ?_)
  ((conv=>whnf)
   refine CF (q+1,N++[(nth h.a7.a6 q).Addr]) ⟨(by simp only;omega),(by grind [I6]),cX d aq g⟩ (by simp only;omega) ?_
   (repeat'(first|exact trivial|rfl|exact CM rfl (CM (Z0 (C.s dR.own) (by simp[rI])) trivial)|refine CM ?_ ?_)))
 obtain rfl:q=h.a7.a6.length:=ω
 rw[X5]at o aq
 repeat'(first|refine gE ?_|(conv=>whnf);first|refine C9 (zz h.w Z) ?_)
 (conv=>whnf)
 refine CJ (ι:=Nat × List Int) (λq=>[(1,.H .box (ac.enc .V h)),(3,.H .one (aH .own q.2)),(10,.H .one (aH .own (aQ h.w))),(11,.H .one [I ((q.1:Nat):Int)])]) (λq=>q.1<=(aQ h.w).length/\q.2=N++(aQ h.w).take q.1/\((aQ h.w).take q.1).all (kN h)=true) (λq=>(aQ h.w).length - q.1) ((0,N)) ?_ ψ λq M=>?_
 ·exact wB
 obtain⟨q,e⟩:=q;obtain⟨F,p,aq6⟩:=M;simp only at F p aq6 |-;have hl6:e.length=N.length+q:=ψ
 by_cases V:q<(aQ h.w).length
 ·have d:=au V
  have b:=y (nth (aQ h.w) q) (-1) ψ;cases g:dy h (nth (aQ h.w) q) (-1)<;>rw[g]at b
  ·repeat'(first|refine gE ?_|(conv=>whnf);first|with_reducible refine CE (aa d) ?_|refine CG rfl (aa d) rfl ?_|refine C9 b ?_)
   exact Z0 (λz=>[B z]) ((Mc (gy d g)).symm)
  repeat'(first|refine gE ?_|(conv=>whnf);first|with_reducible refine CE (aa d) ?_|refine CG rfl (aa d) rfl ?_|refine C9 b ?_|refine CV cB (λr l=>by rw[V1.1 l];rfl) (by simp[bj,ed]) (by simp;omega) (by show _*8<=_;simp;omega) rfl ?_)
  ((conv=>whnf)
   refine CF (q+1,e++[nth (aQ h.w) q]) ⟨(by simp only;omega),(by grind [I6]),cX d aq6 g⟩ (by simp only;omega) ?_
   (repeat'(first|exact trivial|rfl|exact CM rfl (CM (Z0 (C.s dR.own) (by simp[rI])) trivial)|refine CM ?_ ?_)))
 obtain rfl:q=(aQ h.w).length:=ω
 rw[X5]at p aq6;have O:e=holders h:=by rw[p,o,n,Q];rfl
 have hheld:jH h=true:=by grind [jH]
 have hbig:e.length<=100000000:=ω
 clear p o n Q hSl hl5 J hl6
 repeat'(first|refine gE ?_|fail)
 (conv=>whnf)
 refine Lp.fz 3 (ι:=Nat) (λi=>[(1,.H .box (ac.enc .V h)),(3,.H .one (aH .V e)),(12,.H .one [I ((i:Nat):Int)])]) (λi=>i<=e.length/\(e.take i).Nodup) (λi=>e.length - i) 0 ?_ ψ λi u=>?_
 ·(repeat'(first|exact trivial|rfl|exact CM rfl (show P9 (dE (aH .own e)) (aH .V e) by rw[dA];exact nk _)|refine CM ?_ ?_))
 obtain⟨u,P⟩:=u;by_cases lj:i<e.length
 ·have d:=au lj
  have htl:(e.take i).length=i:=ψ
  repeat'(first|refine gE ?_|(conv=>whnf);first|with_reducible (first|refine CE (aa d) ?_|refine Bf.D (λM=>?_) (λM=>?_))|refine CY i rfl (by simp;omega) (λr l=>by obtain⟨z,-,rfl⟩:=Y4.1 l;rfl) (W4 ..) ?_|refine C9 (mW (e.take i) _ ω) ?_)
  all_goals first
   | exact Z0 (λz=>[B z]) ((by rw[O]at *;exact(LK (by assumption) (by assumption)).symm))
   | ((conv=>whnf);refine CF (i+1) ⟨ω,by rw[I6,d];exact lB P (by assumption)⟩ ω ?_;(exact wB))
 obtain rfl:i=e.length:=ω
 rw[X5]at P;have hlv:=Ay h.J h.M 512
 repeat'(first|refine gE ?_|(conv=>whnf);first|refine C9 (wK h.J h.M G H t) ?_)
 exact Z0 (λz=>[B z]) ((by grind [kg]))
set_option maxHeartbeats 8000000
def d6(h:ac):Bool:=(bR h.w&&decide (h.S.length=h.w.U.length))&&gq h.a7
def dU(h:ac):Bool:=((((((lO h&&vw h)&&d6 h)&&lT h)&&h.S.all b9)&&cn h)&&(fY h&&kg h))&&tn h
theorem v7(h:ac)(X:ac.sml h)(Y:ac.wf h):zzA 73 false [.val (some 24) (ac.enc .V h)] .one [B (dU h)]:=by
 have M:=X;have O:=Y;obtain⟨u,w,b,j,P,y,C,E,F⟩:=X;obtain⟨-,-,-,-,Q,hwc,hwm,hwq,-⟩:=Y;have l:yw h:=u.1.2;have hpn:fk h<=1048576:=l.1;have R:h.O.length<=1048576:=P.1;have S:h.S.length<=1048576:=y.1;have hlq:h.a7.a6.length<=1048576:=E.1;have hlb:h.w.U.length<=1048576:=C.1.1;have d:=mB h.G u;have e:=m7 (fk h) h.o ω w;have g:=mr h.J h.M b j;have r:=Ea h b l;have G:=lV h.w C;have T:=pc h.a7 E;cases Z:aF h.G<;>rw[Z]at d
 ·refine fO 150 [(8,10,[67,68,69,70,71,72,73,74,75,76])] Tryz.func73 rfl ?_
  repeat'(first|refine gP ?_|(conv=>whnf);first|with_reducible refine Bf.N (λa=>?_) (λa=>?_)|refine C9 d ?_)
  all_goals first
   | exact Z0 (λz=>[B z]) ((by unfold dU lO;rw[Z];simp))
   |(exfalso;omega)
 cases e2:bF (fk h) h.o<;>rw[e2]at e
 ·refine fO 150 [(8,10,[67,68,69,70,71,72,73,74,75,76])] Tryz.func73 rfl ?_
  repeat'(first|refine gP ?_|(conv=>whnf);first|with_reducible refine Bf.N (λa=>?_) (λa=>?_)|refine C9 d ?_|refine C9 e ?_)
  all_goals first
   | exact Z0 (λz=>[B z]) ((by unfold dU lO;rw[e2];simp))
   |(exfalso;omega)
 cases H:bt h.J h.M<;>rw[H]at g
 ·refine fO 150 [(8,10,[67,68,69,70,71,72,73,74,75,76])] Tryz.func73 rfl ?_
  repeat'(first|refine gP ?_|(conv=>whnf);first|with_reducible refine Bf.N (λa=>?_) (λa=>?_)|refine C9 d ?_|refine C9 e ?_|refine C9 g ?_)
  all_goals first
   | exact Z0 (λz=>[B z]) ((by unfold dU lO;rw[H];simp))
   |(exfalso;omega)
 have n:=Ga h b j l w H;cases e4:pages0 h<;>rw[e4]at n
 ·refine fO 150 [(8,10,[67,68,69,70,71,72,73,74,75,76])] Tryz.func73 rfl ?_
  repeat'(first|refine gP ?_|(conv=>whnf);first|with_reducible refine Bf.N (λa=>?_) (λa=>?_)|refine C9 d ?_|refine C9 e ?_|refine C9 g ?_|refine C9 n ?_)
  all_goals first
   | exact Z0 (λz=>[B z]) ((by unfold dU lO;rw[e4];simp))
   |(exfalso;omega)
 cases e5:vw h<;>rw[e5]at r
 ·refine fO 150 [(8,10,[67,68,69,70,71,72,73,74,75,76])] Tryz.func73 rfl ?_
  repeat'(first|refine gP ?_|(conv=>whnf);first|with_reducible refine Bf.N (λa=>?_) (λa=>?_)|refine C9 d ?_|refine C9 e ?_|refine C9 g ?_|refine C9 n ?_|refine C9 r ?_)
  all_goals first
   | exact Z0 (λz=>[B z]) ((by unfold dU ;rw[e5];simp))
   |(exfalso;omega)
 cases U:bR h.w<;>rw[U]at G
 ·refine fO 150 [(8,10,[67,68,69,70,71,72,73,74,75,76])] Tryz.func73 rfl ?_
  repeat'(first|refine gP ?_|(conv=>whnf);first|with_reducible refine Bf.N (λa=>?_) (λa=>?_)|refine C9 d ?_|refine C9 e ?_|refine C9 g ?_|refine C9 n ?_|refine C9 r ?_|refine C9 G ?_)
  all_goals first
   | exact Z0 (λz=>[B z]) ((by unfold dU d6;rw[U];simp))
   |(exfalso;omega)
 by_cases V:h.S.length=h.w.U.length;rotate_left
 ·refine fO 150 [(8,10,[67,68,69,70,71,72,73,74,75,76])] Tryz.func73 rfl ?_
  repeat'(first|refine gP ?_|(conv=>whnf);first|with_reducible refine Bf.N (λa=>?_) (λa=>?_)|refine C9 d ?_|refine C9 e ?_|refine C9 g ?_|refine C9 n ?_|refine C9 r ?_|refine C9 G ?_)
  all_goals first
   | exact Z0 (λz=>[B z]) ((by unfold dU d6;rw[W0 V];simp))
   |(exfalso;omega)
 cases e7:gq h.a7<;>rw[e7]at T
 ·refine fO 150 [(8,10,[67,68,69,70,71,72,73,74,75,76])] Tryz.func73 rfl ?_
  repeat'(first|refine gP ?_|(conv=>whnf);first|with_reducible refine Bf.N (λa=>?_) (λa=>?_)|refine C9 d ?_|refine C9 e ?_|refine C9 g ?_|refine C9 n ?_|refine C9 r ?_|refine C9 G ?_|refine C9 T ?_)
  all_goals first
   | exact Z0 (λz=>[B z]) ((by unfold dU d6;rw[e7];simp))
   |(exfalso;omega)
 have hlay:lO h=true:=by grind [lO]
 have hmc:d6 h=true:=by grind [d6]
 refine fO 150 [(8,10,[67,68,69,70,71,72,73,74,75,76])] Tryz.func73 rfl ?_
 repeat'(first|refine gB ?_|(conv=>whnf);first|with_reducible refine Bf.N (λa=>?_) (λa=>?_)|refine C9 d ?_|refine C9 e ?_|refine C9 g ?_|refine C9 n ?_|refine C9 r ?_|refine C9 G ?_|refine C9 T ?_)
 all_goals try(exfalso;omega)
 (conv=>whnf)
 refine CJ (ι:=Nat) (λi=>[(1,.H .box (ac.enc .V h)),(3,.H .one [I ((i:Nat):Int)])]) (λi=>i<=h.a7.a6.length/\(h.a7.a6.take i).all (λx=>decide (x.b6<=h.b1))=true) (λi=>h.a7.a6.length - i) (0) ?_ ψ λi hi=>?_
 ·exact wB
 obtain⟨hi,ai⟩:=hi;by_cases li:i<h.a7.a6.length
 ·have p:=au li
  repeat'(first|refine gE ?_|(conv=>whnf);first|with_reducible (first|refine CE (aa p) ?_|refine Bf.D (λa=>?_) (λa=>?_)))
  all_goals first
   | exact Z0 (λz=>[B z]) ((by unfold dU lT;rw[gy p (W0 ω)];simp))
   | ((conv=>whnf);refine CF (i+1) ⟨ω,cX p ai (O0 ω)⟩ ω ?_;(exact wB))
 have hsi:lT h=true:=ow ω ai
 repeat'(first|refine gE ?_|fail)
 (conv=>whnf)
 refine CJ (ι:=Nat) (λk=>[(1,.H .box (ac.enc .V h)),(4,.H .one [I ((k:Nat):Int)])]) (λk=>k<=h.S.length/\(h.S.take k).all b9=true) (λk=>h.S.length - k) (0) ?_ ψ λk hk=>?_
 ·exact wB
 obtain⟨hk,ak⟩:=hk;by_cases lk:k<h.S.length
 ·have p:=au lk
  have W:=nK (nth h.S k) (y.2 _ (ar lk));cases e8:b9 (nth h.S k)<;>rw[e8]at W
  ·repeat'(first|refine gE ?_|(conv=>whnf);first|with_reducible refine CE (aa p) ?_|refine C9 W ?_)
   exact Z0 (λz=>[B z]) ((by grind [dU]))
  repeat'(first|refine gE ?_|(conv=>whnf);first|with_reducible refine CE (aa p) ?_|refine C9 W ?_)
  ((conv=>whnf);refine CF (k+1) ⟨ω,cX p ak e8⟩ ω ?_;(exact wB))
 have hca:h.S.all b9=true:=ow ω ak;have q:=Jn h b j H R S (λo ho=>(Q.2 o ho).2.1);have c10:=HT h M O H U ψ;have c11:=Le h.Y F;have c12:=xk h.Y F;have c13:=jZ h h.Y.X.a3 b.1;have c14:=jZ h h.Y.X.a1 b.1;by_cases hn:cn h=true;rotate_left
 ·have J:cn h=false:=by simpa using hn
  have c:=J;unfold cn at c;rw[z5]at c;cases L:fY h<;>rw[L]at q<;>cases e10:kg h<;>rw[e10]at c10
  all_goals
   repeat'(first|refine gE ?_|(conv=>whnf);first|with_reducible refine Bf.D (λa=>?_) (λa=>?_)|refine C9 (aJ _ _ _) ?_|refine C9 q ?_|refine C9 c10 ?_)
   all_goals first
    | exact Z0 (λz=>[B z]) ((by unfold dU;rw[J];simp))
    |(exfalso;omega)
 have c:=hn;unfold cn at c;rw[C0]at c;cases L:fY h<;>rw[L]at q
 ·repeat'(first|refine gE ?_|(conv=>whnf);first|with_reducible refine Bf.D (λa=>?_) (λa=>?_)|refine C9 (aJ _ _ _) ?_|refine C9 q ?_)
  all_goals first
   | exact Z0 (λz=>[B z]) ((by unfold dU;rw[L];simp))
   |(exfalso;omega)
 cases e10:kg h<;>rw[e10]at c10
 ·repeat'(first|refine gE ?_|(conv=>whnf);first|with_reducible refine Bf.D (λa=>?_) (λa=>?_)|refine C9 (aJ _ _ _) ?_|refine C9 q ?_|refine C9 c10 ?_)
  all_goals first
   | exact Z0 (λz=>[B z]) ((by unfold dU;rw[e10];simp))
   |(exfalso;omega)
 have K:dU h=tn h:=by grind [dU]
 rw[K];unfold tn;cases em:h.u
 ·repeat'(first|refine gE ?_|(conv=>whnf);first|with_reducible refine Bf.D (λa=>?_) (λa=>?_)|refine C9 (aJ _ _ _) ?_|refine C9 q ?_|refine C9 c10 ?_|refine C9 c11 ?_|refine Bf.f em ?_)
  grind
 cases e12:jR h.Y<;>rw[e12]at c12
 all_goals
  repeat'(first|refine gE ?_|(conv=>whnf);first|with_reducible (first|refine Bf.D (λa=>?_) (λa=>?_)|refine Bf.D (λa=>?_) (λa=>?_))|refine C9 (aJ _ _ _) ?_|refine C9 q ?_|refine C9 c10 ?_|refine C9 c12 ?_|refine C9 c13 ?_|refine C9 c14 ?_|refine Bf.t em ?_)
  all_goals first
   | exact Z0 (λz=>[B z]) (ψ)
   |(exfalso;omega)
end Go.Proofs.YtiopgblagimpmaaGreat.Ab
