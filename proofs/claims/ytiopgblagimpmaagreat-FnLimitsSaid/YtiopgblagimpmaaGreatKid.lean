/- When the parts of a heap are valid, as plain functions over its data. No condition. -/
import Derived.Test.YtiopgblagimpmaaGreatKic
set_option linter.unusedVariables false
set_option linter.defProp false
set_option linter.unusedSimpArgs false
set_option linter.constructorNameAsVariable false
namespace Go.Proofs.YtiopgblagimpmaaGreat.Ab
section
variable{α:Type}{l:List α}{p:α->Bool}{i:Nat}{x:α}
theorem cV(h:l[i]? = some x)(a:(l.take i).all p=true)(b:p x=true):(l.take (i+1)).all p=true:=by grind [V5]
theorem gI(h:l[i]? = some x)(a:p x=false):l.all p=false:=ψ
theorem ns(a:l.length<=i)(b:(l.take i).all p=true):l.all p=true:=by grind [I7]
end
variable{i:Nat}{α:Type}
theorem wj{β:Type}{a:List α}{b:List β}{x:α}{y:β}(h1:a[i]? = some x)(c:b[i]? = some y):(a.zip b)[i]? = some (x,y):=ψ
def nth[Inhabited α](xs:List α)(i:Nat):α:=xs.getD i default
theorem au[Inhabited α]{xs:List α}(h:i<xs.length):xs[i]? = some (nth xs i):=by grind [nth]
theorem bn[Inhabited α]{xs:List α}{y:α}(h:xs[i]? = some y):nth xs i=y:=by grind [nth]
theorem ar[Inhabited α]{xs:List α}(h:i<xs.length):nth xs i∈xs:=C2 (au h)
def dd(n:Nat)(p:Nat->Bool):Bool:=(List.range n).all p
variable{n:Nat}
theorem cQ{p:Nat->Bool} : dd n p=true↔∀j,j<n->p j=true:=by
 unfold dd;simp
theorem bU{p:Nat->Bool}(h:dd n p=true)(a:p n=true):dd (n+1) p=true:=by grind [cQ]
theorem cz{p:Nat->Bool}(a:i<n)(b:p i=false):dd n p=false:=by grind [cQ]
theorem fj{p:Nat->Bool}(h:dd n p=true)(a:i<n):p i=true:=cQ.1 h i a
def iG(u:Bool)(v:Int):Bool:=decide (0<=v/\v<=999)&&(u || decide (v=0))
def ic(r:List Int)(u:Bool):Bool:=decide (r.length=16)&&r.all (iG u)
def dt(f:aX):Bool:=decide (1<=f.T.length/\f.T.length<=32)&&(decide (f.a5.length=f.T.length)&&(f.T.zip f.a5).all λq=>ic q.1 q.2)
def iD{f:aX}{r:List Int}{u:Bool}(h1:f.T[i]? = some r)(a:f.a5[i]? = some u)(b:ic r u=false):dt f=false:=by
 unfold dt;rw[gI (p:=λq=>ic q.1 q.2) (wj h1 a) b];simp
variable{k:Nat}
theorem sJ{r:List Int}{u:Bool}{v:Int}(h1:r[k]? = some v)(a:iG u v=false):ic r u=false:=by grind [ic]
theorem Dy{f:aX}(h:dt f=true):1<=f.T.length/\f.T.length<=32/\f.a5.length=f.T.length:=by grind [dt]
def l7(a:Int)(e:bk):Bool:=decide (0<=e.e/\e.e<=2/\(e.e=0->e.o=0)/\(e.e≠0->0<=e.o/\e.o<a))
def gq(t:aM)(a:Int):Bool:=dd t.K.length (λi=>l7 a (nth t.K i))&&decide (1<=t.K.length/\t.K.length<=32)
def MC(t:aM)(f:Int)(i:Nat):Bool:=decide ((nth t.K i).e≠0/\(nth t.K i).o=f)
def jY(t:aM)(f:Int)(n:Nat):List Int:=((List.range n).filter (MC t f)).map λ(i:Nat)=>(i:Int)
def pagesOn(t:aM)(f:Int):List Int:=jY t f t.K.length
theorem Am{t:aM}{f:Int}(h:MC t f n=true):jY t f (n+1)=jY t f n++[(n:Int)]:=by grind [List.range_succ,jY]
theorem Gl{t:aM}{f:Int}(h:MC t f n=false):jY t f (n+1)=jY t f n:=by grind [List.range_succ,jY]
theorem t8(t:aM)(f:Int)(n:Nat):(jY t f n).length<=n:=by grind [jY]
def af(t:aM)(p:Int):bk:=if 0<=p/\p<t.K.length then nth t.K p.toNat else⟨0,0⟩
def oT(m:aY)(i:Nat):Bool:=nth m.W.a5 i == decide (0<(pagesOn m.R (i:Int)).length)
def d8(m:aY):Bool:=(dt m.W&&gq m.R m.W.a5.length)&&dd m.W.a5.length (oT m)
def aF(k:am):Bool:=(dd k.a0.length (λi=>decide (0<=nth k.a0 i))&&d8 k.F)&&decide (0<=k.Calls/\k.Calls<=100000/\k.a0.length<=40)
def rangeIn(pages:Int)(r:aB):Bool:=decide (1<=r.a8/\r.a8<=pages/\0<=r.At/\r.At<=pages - r.a8)
def gm(pages:Int)(xs:List aB)(i:Nat):Bool:=rangeIn pages (nth xs i)&&decide (i=0\/(nth xs (i - 1)).At+(nth xs (i - 1)).a8<(nth xs i).At)
def bC(pages:Int)(xs:List aB):Bool:=dd xs.length (gm pages xs)&&decide (1<=pages/\pages<=32)
def vG(page:Int)(r:aB):Bool:=decide (r.At<=page)&&decide (page<IntKind.i64.wrap (r.At+r.a8))
def lim(k:Int):Int:=if k=0 then 65535 else if k=1 then 255 else if k=2 then 15 else if k=3 then 3 else 0
def slots(k:Int):Int:=if k=0 then 16 else if k=1 then 8 else if k=2 then 4 else if k=3 then 2 else 0
def bh(s:aA):Bool:=decide (0<=s.Q/\s.Q<=31/\0<=s.d/\s.d<=3/\0<=s.a9/\s.a9<=lim s.d)
def eR(n:Int):Int:=if 9<=n/\n<=1000 then(n+15) / 16 else 0
def bN(l:aD):Bool:=decide (9<=l.q/\l.q<=1000/\l.a2=(l.q+15) / 16/\0<=l.Q/\l.Q<=32 - l.a2)
def lpgs(l:aD)(n:Nat):List Int:=(List.range n).map λ(i:Nat)=>l.Q+i
def pgs(sp:List aA)(la:List aD):List Int:=sp.map (·.Q)++la.flatMap λl=>lpgs l l.a2.toNat
def bq(sp:List aA)(la:List aD):Bool:=(sp.all bh&&la.all bN)&&decide (pgs sp la).Nodup
def d5(s:aA)(a:Int):Bool:=bh s&&decide (16*s.Q<=a/\a<=16*s.Q+15)
def aZ(b i:Int):Bool:=decide (0<=b/\0<=i/\i<=15/\b / 2 ^ i.toNat % 2=1)
def bO(l:aD)(a:Int):Bool:=bN l&&decide (16*l.Q<=a/\a<=16*l.Q+l.q - 1)
def csz(k:Int):Int:=if 0<=k/\k<=3 then 2 ^ k.toNat else 0
def iR(s:aA)(a:Int):Int × Int:=if d5 s a then((a - 16*s.Q) / csz s.d,(a - 16*s.Q) % csz s.d) else(-1,-1)
def qp(i:Nat)(s:aA)(a:Int):j8:=⟨if aZ s.a9 ((a - 16*s.Q) / csz s.d) then 1 else 2,i,(a - 16*s.Q) / csz s.d,(a - 16*s.Q) % csz s.d⟩
def denotes(sp:List aA)(la:List aD)(a:Int):j8:=
 match sp.findIdx? (d5 · a) with
 | some i=>qp i (nth sp i) a
 | none=>match la.findIdx? (bO · a) with
  | some i=>⟨3,i,0,a - 16*(nth la i).Q⟩
  | none=>⟨0,0,0,0⟩
theorem wa{pr:α->Bool}{xs:List α}{y:α}(a:xs[i]? = some y)(b:pr y=true)(c:∀(j:Nat)(z:α),j<i->xs[j]? = some z->pr z=false):xs.findIdx? pr=some i:=by grind [C7]
theorem Da{pr:α->Bool}{xs:List α}(a:xs.length<=i)(b:∀(j:Nat)(z:α),j<i->xs[j]? = some z->pr z=false):xs.findIdx? pr=none:=
 List.findIdx?_eq_none_iff.2 λz c=>by grind [List.mem_iff_getElem?]
theorem dX{pr:α->Bool}{xs:List α}{y:α}(a:xs[i]? = some y)(b:pr y=false)(c:∀(j:Nat)(z:α),j<i->xs[j]? = some z->pr z=false):∀(j:Nat)(z:α),j<i+1->xs[j]? = some z->pr z=false:=ψ
def cW(pr:α->Bool)(xs:List α):Int:=match xs.findIdx? pr with|some i=>(i:Nat)|none=>-1
theorem dN{pr:α->Bool}{xs:List α}{y:α}(a:xs[i]? = some y)(b:pr y=true)(c:∀(j:Nat)(z:α),j<i->xs[j]? = some z->pr z=false):cW pr xs=(i:Nat):=by
 unfold cW;rw[wa a b c]
theorem gc{pr:α->Bool}{xs:List α}(a:xs.length<=i)(b:∀(j:Nat)(z:α),j<i->xs[j]? = some z->pr z=false):cW pr xs = -1:=by grind [Da,cW]
theorem mK(pr:α->Bool)(xs:List α):decide (cW pr xs≥0)=xs.any pr:=by grind [cW]
def meshable(s t:aA):Bool:=(bh s&&bh t)&&decide (s.d=t.d/\s.Q≠t.Q/\s.a9.toNat &&& t.a9.toNat=0)
def ny(n:Int)(p:dw):Bool:=decide (0<=p.To/\p.To<=n - 1/\0<=p.Addr)
def PC(z:Int):Bool:=decide (0<=z)
def gN(m:aN)(i:Nat):Bool:=(nth m.U i).all (ny m.U.length)&&(nth m.y i).all PC
def bA(m:aN):Nat->Int
 | 0=>0
 | i+1=>bA m i+((nth m.U i).length+(nth m.y i).length)
def bQ(m:aN):Bool:=(decide (1<=m.U.length/\m.U.length<=4/\m.y.length=m.U.length)&&dd m.U.length (gN m))&&decide (bA m m.U.length<=30)
def aQ(m:aN):List Int:=if bQ m then(m.U.flatMap λl=>l.map (·.Addr))++m.y.flatten else []
def eS(a:Int)(y:aT):Bool:=decide (y.Addr=a)
def kH(xs:List aT)(i:Nat):Bool:=decide (0<=(nth xs i).d/\(nth xs i).d<=3/\0<=(nth xs i).Addr/\0<=(nth xs i).b7/\(i=0\/(nth xs (i - 1)).b7<=(nth xs i).b7))&&!(xs.take i).any (eS (nth xs i).Addr)
def quarCells(xs:List aT):Nat->Int
 | 0=>0
 | i+1=>quarCells xs i+csz (nth xs i).d
def gk(q:bM):Bool:=dd q.a6.length (kH q.a6)&&decide (0<=q.c1/\q.c1<=500/\quarCells q.a6 q.a6.length<=q.c1)
def m6(xs:List Int)(i:Nat):Bool:=decide (0<=nth xs i/\nth xs i<=15/\(i=0\/nth xs (i - 1)<nth xs i))
def eM(p:cx):Bool:=dd p.T.length (m6 p.T)&&decide (0<=p.a3/\p.a3<=31/\0<=p.a1/\p.a1<=31/\p.a3≠p.a1)
def jL(j:cE):Bool:=eM j.X&&decide (0<=j.b0/\j.b0<=5/\0<=j.b/\j.b<=j.X.T.length)
def sM(j:cE):Bool:=decide (j.X.a3=0/\j.X.a1=0/\j.X.T.length=0/\j.b0=0/\j.b=0)
def aU(h:ac)(p:Int):List Int:=if(af h.G.F.R p).e=0 then [] else pagesOn h.G.F.R (af h.G.F.R p).o
def mw(p:Int)(s:aA):Bool:=decide (s.Q=p)
def gJ(h:ac)(p:Int):Int:=cW (mw p) h.J
def aL(n:Int):Int:=if n<1 then -1 else if n<=1 then 0 else if n<=2 then 1 else if n<=4 then 2 else if n<=8 then 3 else -1
open Go.RowKit
set_option maxRecDepth 20000
set_option maxHeartbeats 2000000
def aJ(n lo a:Int):zzA 110 false [.val none [I n],.val none [I lo],.val none [I a]] .one [B (decide (lo<=n/\n<=a))]:=by
 refine fO 15 [] Tryz.func110 rfl ?_
 repeat'(first|refine gP ?_|(conv=>whnf);first|with_reducible refine Bf.D (λb=>?_) (λb=>?_))
 all_goals exact X0 (λz=>[B z]) (by simp;try omega)
def aO(n lo a:Int):zzA 63 false [.val none [I n],.val none [I lo],.val none [I a]] .one [B (decide (lo<=n/\n<=a))]:=by
 refine fO 15 [] Tryz.func63 rfl ?_
 repeat'(first|refine gP ?_|(conv=>whnf);first|with_reducible refine Bf.D (λb=>?_) (λb=>?_))
 all_goals exact X0 (λz=>[B z]) (by simp;try omega)
def fw(k:Int):zzA 232 false [.val none [I k]] .one [B (decide (0<=k/\k<=3))]:=by
 refine fO 5 [] Tryz.func232 rfl ?_
 repeat'(first|refine gP ?_|(conv=>whnf);first|refine C8 (aO k 0 3) ?_)
 rfl
theorem f9(k:Int):zzA 106 false [.val none [I k]] .one [I (csz k)]:=by
 by_cases b:0<=k/\k<=3
 ·obtain rfl|rfl|rfl|rfl:k=0\/k=1\/k=2\/k=3:=ω
  all_goals
   refine fO 8 [] Tryz.func106 rfl ?_
   repeat'(first|refine gE ?_|(conv=>whnf);first|with_reducible refine Bf.D (λa=>?_) (λa=>?_)|refine C8 (fw _) ?_|refine CO (by decide) ?_|refine CM rfl ?_)
   exact X0 (λz=>[I z]) (by decide)
 refine fO 8 [] Tryz.func106 rfl ?_
 repeat'(first|refine gE ?_|(conv=>whnf);first|with_reducible refine Bf.D (λa=>?_) (λa=>?_)|refine C8 (fw _) ?_)
 exact X0 (λz=>[I z]) (by grind [csz])
theorem ef(k:Int):zzA 361 false [.val none [I k]] .one [I (csz k)]:=by
 by_cases b:0<=k/\k<=3
 ·obtain rfl|rfl|rfl|rfl:k=0\/k=1\/k=2\/k=3:=ω
  all_goals
   refine fO 9 [] Tryz.func361 rfl ?_
   repeat'(first|refine gE ?_|(conv=>whnf);first|with_reducible refine Bf.D (λa=>?_) (λa=>?_)|refine C8 (aJ _ 0 3) ?_|refine CO (by decide) ?_|refine CM rfl ?_)
   exact X0 (λz=>[I z]) (by decide)
 refine fO 9 [] Tryz.func361 rfl ?_
 repeat'(first|refine gE ?_|(conv=>whnf);first|with_reducible refine Bf.D (λa=>?_) (λa=>?_)|refine C8 (aJ _ 0 3) ?_)
 exact X0 (λz=>[I z]) (by grind [csz])
theorem mQ(xs:List Int)(a:Int)(h:xs.length<=9223372036854775807):zzA 353 false [.val none (aH .V xs),.val none [I a]] .one [B (decide (a∈xs))]:=by
 refine fO 18 [] Tryz.func353 rfl ?_
 repeat'(first|refine gP ?_|fail)
 (conv=>whnf)
 refine CJ (ι:=Nat) (λi=>[(0,.H .one (aH .V xs)),(1,.H .one [I a]),(5,.H .one [I (i:Nat)])]) (λi=>i<=xs.length/\a∉xs.take i) (λi=>xs.length - i) 0 ?_ ψ λi c=>?_
 ·exact wB
 obtain⟨c,d⟩:=c;by_cases b:i<xs.length
 ·obtain⟨y,e⟩ : ∃y,xs[i]? = some y:=⟨_,O2 b⟩
  repeat'(first|refine gE ?_|(conv=>whnf);first|with_reducible (first|refine CD (aa e) ?_|refine Bf.E (λg=>?_) (λg=>?_)))
  ·exact X0 (λz=>[B z]) ψ
  (conv=>whnf)
  refine CE (i+1) ⟨ω,?_⟩ ω ?_
  ·grind [V5]
  exact wB
 repeat'(first|refine gE ?_|fail)
 rw[I7 ω]at d;exact X0 (λz=>[B z]) ψ
set_option maxHeartbeats 4000000
def good(k:Int)(s:List Int)(a:Int):Prop:=0<=a/\a<=511/\a.tmod (csz k)=0/\a∉s
instance (k:Int) (s:List Int) (a:Int):Decidable (good k s a):=by unfold good;exact inferInstance
def rQ(k:Int):List Int->List Int->Option (List Int)
 | s,[]=>some s
 | s,a::l=>if good k s a then rQ k (s++[a]) l else none
def fp(k:Nat)(s l:List Int):Option (List Int):=if l.length<=8/\k<=3 then rQ k s l else none
def gy:Nat->List Int->List (List Int)->Option (List Int)
 | _,s,[]=>some s
 | k,s,l::ls=>(fp k s l).bind λa=>gy (k+1) a ls
def b6(c:aE):Bool:=decide (c.a.length=4)&&(gy 0 [] c.a).isSome
theorem rM(k:Int):∀(a s b:List Int),rQ k s (a++b)=(rQ k s a).bind λc=>rQ k c b
 | [],s,b=>rfl
 | x::a,s,b=>by
  simp only[List.cons_append,rQ];split
  ·exact rM k a _ b
  rfl
theorem oK:∀(a:List (List Int))(k:Nat)(s:List Int)(b:List (List Int)),gy k s (a++b)=(gy k s a).bind λc=>gy (k+a.length) c b
 | [],k,s,b=>rfl
 | l::a,k,s,b=>by
  simp only[List.cons_append,gy,Option.bind_assoc,List.length_cons]
  congr 1;funext c
  rw[oK a (k+1) c b,show k+1+a.length=k+(a.length+1) by omega]
variable{a:Int}{l:List Int}
theorem JG{k:Int}{b s:List Int}{j:Nat}(c:l[j]? = some a)(h:rQ k b (l.take j)=some s)(d:good k s a):rQ k b (l.take (j+1))=some (s++[a]):=by grind [V5,rM,rQ]
theorem Pr{b s:List Int}{j:Nat}(c:l[j]? = some a)(h:rQ k b (l.take j)=some s)(d:¬good k s a):fp k b l=none:=by
 unfold fp;split
 all_goals grind [List.drop_eq_getElem_cons,List.take_append_drop,rM,rQ]
theorem D9{k:Int} : ∀{l s b:List Int},rQ k s l=some b->b.length=s.length+l.length
 | [],s,b,h=>by grind [rQ]
 | a::l,s,b,h=>by
  simp only[rQ]at h;split at h
  ·have:=D9 h;grind
  cases h
theorem tV{a:List (List Int)}{s:List Int}(b:a[i]? = some l)(h:gy 0 [] (a.take i)=some s):gy 0 [] (a.take (i+1))=fp i s l:=by
 have c:=(U2.1 b).1;rw[V5,b,Option.toList_some,oK,h];simp only[Option.bind_some,gy,Z6,V1,Nat.min_eq_left (Nat.le_of_lt c)]
 grind
variable{c:aE}
theorem kW{s:List Int}(a:c.a[i]? = some l)(h:gy 0 [] (c.a.take i)=some s)(b:fp i s l=none):b6 c=false:=by
 have d:=tV a h
 grind [List.take_append_drop,oK,b6]
theorem Ew:∀{b:List (List Int)}{k:Nat}{s a:List Int},gy k s b=some a->a.length<=s.length+8*b.length
 | [],k,s,a,h=>by grind [gy]
 | l::b,k,s,a,h=>by
  simp only[gy]at h;unfold fp at h;split at h
  ·cases c:rQ k s l with
   | none=>grind
   | some d=>
    rw[c]at h;have e:=D9 c;have f:=Ew (show gy (k+1) d b=some a from h)
    grind
  cases h
def NQ(h:i<=3):csz (i:Int)≠0:=by
 obtain rfl|rfl|rfl|rfl:i=0\/i=1\/i=2\/i=3:=ω
 all_goals decide
def cI : ∀r∈l.map (rI .own),r.length=1:=by
 intro r a;obtain⟨z,-,rfl⟩:=O4.1 a;rfl
theorem ni(c:aE)(t:aE.sml c):zzA 214 false [.val (some 1) (aE.enc .V c)] .one [B (b6 c)]:=by
 have G:=t.1;refine fO 60 [] Tryz.func214 rfl ?_
 repeat'(first|refine gP ?_|(conv=>whnf);first|with_reducible refine Bf.N (λe=>?_) (λe=>?_))
 ·exact X0 (λz=>[B z]) (by grind [b6])
 have H:c.a.length=4:=ω
 (conv=>whnf)
 refine CJ (ι:=Nat × List Int) (λi=>[(1,.H .box (aE.enc .V c)),(3,.H .one (aH .own i.2)),(4,.H .one [I (i.1:Nat)])]) (λi=>i.1<=4/\gy 0 [] (c.a.take i.1)=some i.2) (λi=>4 - i.1) (0,[]) ?_ ⟨W0 _,rfl⟩ λi k=>?_
 ·exact wB
 obtain⟨i,s⟩:=i;obtain⟨k,b⟩:=k;simp only at k b |-;have g:=Ew b;rw[V1]at g;simp only[List.length_nil]at g;by_cases u:i<4
 ·obtain⟨l,d⟩ : ∃l,c.a[i]? = some l:=(ψ)
  have w:l.length<=1048576:=t.2 l ψ
  repeat'(first|refine gE ?_|(conv=>whnf);first|with_reducible (first|refine CD (aa d) ?_|refine Bf.D (λe=>?_) (λe=>?_)))
  ·exact X0 (λz=>[B z]) (kW d b (by grind [fp])).symm
  have E:l.length<=8:=ω
  (conv=>whnf)
  refine CJ (ι:=Nat × List Int) (λj=>[(1,.H .box (aE.enc .V c)),(3,.H .one (aH .own j.2)),(4,.H .one [I (i:Nat)]),(5,.H .one [I (j.1:Nat)])]) (λj=>j.1<=l.length/\rQ i s (l.take j.1)=some j.2) (λj=>l.length - j.1) (0,s) ?_ ⟨W0 _,rfl⟩ λj n=>?_
  ·exact wB
  obtain⟨j,o⟩:=j;obtain⟨n,a⟩:=n;simp only at n a |-;have h:=D9 a;rw[V1]at h;by_cases p:j<l.length
  ·obtain⟨y,q⟩ : ∃y,l[j]? = some y:=⟨_,O2 p⟩
   repeat'(first|refine gE ?_|(conv=>whnf);first|with_reducible (first|refine CD (aa d) ?_|refine CD (aa q) ?_|refine Bf.D (λe=>?_) (λe=>?_)|refine Bf.N (λe=>?_) (λe=>?_))|refine C8 (aJ y 0 511) ?_|refine C8 (ef (i:Nat)) ?_|refine CO (NQ ω) ?_|refine CS rfl ?_|refine CF (mQ o y ω) ⟨⟨rfl,dR _⟩,⟨rfl,rfl⟩,trivial⟩ ?_|refine CU cI (λr F=>by rw[O1.1 F];rfl) (by simp[bi,eg]) (by simp;omega) (by simp only[C1];exact yJ (by simp;omega) (by decide)) rfl ?_)
   all_goals first
    | exact X0 (λz=>[B z]) (kW d b (Pr q a λ⟨J,K,L,M⟩=>by first|contradiction|omega)).symm
    | ((conv=>whnf)
       refine CE (j+1,o++[y]) ⟨(by simp only;omega),JG q a ⟨ω,ω,(by assumption),(by assumption)⟩⟩ (by simp only;omega) ?_
       (repeat'(first|exact trivial|rfl|exact CL rfl (CL (X0 (C.s dQ.own) (by simp[rI])) trivial)|refine CL ?_ ?_)))
  repeat'(first|refine gE ?_|(conv=>whnf);first|with_reducible refine CD (aa d) ?_)
  (conv=>whnf)
  rw[I7 ω]at a;refine CE (i+1,o) ⟨(by simp only;omega),(by rw[tV d b];grind [fp])⟩ (by simp only;omega) ?_;exact wB
 repeat'(first|refine gE ?_|fail)
 rw[I7 ω]at b;exact X0 (λz=>[B z]) (by grind [b6])
def fR(s:List Int):List (Int × Value):=s.map λa=>(a,.bool true)
theorem nk(a:Int):∀(s:List Int),mlook (fR s) a (.bool false)=.bool (decide (a∈s))
 | []=>by simp[fR,mlook]
 | x::s=>by
  have b:=nk a s
  grind [fR,mlook]
theorem uz{a:Int} : ∀{s:List Int},a∉s->fR (s++[a])=mput (fR s) a (.bool true)
 | [],_=>rfl
 | x::s,h=>by
  simp only[List.mem_cons,not_or]at h;have b:=uz h.2
  grind [fR,mput]
theorem ta(c:aE)(p:aE.sml c):zzA 80 false [.val (some 1) (aE.enc .V c)] .one [B (b6 c)]:=by
 have w:=p.1;refine fO 54 [] Tryz.func80 rfl ?_
 repeat'(first|refine gP ?_|fail)
 (conv=>whnf)
 refine CJ (ι:=Nat × List Int) (λi=>[(1,.H .box (aE.enc .V c)),(3,.H .one [.m (fR i.2)]),(10,.H .one (jq .V c.a)),(11,.H .one [I c.a.length]),(12,.H .one [I (i.1:Nat)])]) (λi=>i.1<=c.a.length/\gy 0 [] (c.a.take i.1)=some i.2) (λi=>c.a.length - i.1) (0,[]) ?_ ⟨W0 _,rfl⟩ λi g=>?_
 ·exact wB
 obtain⟨i,s⟩:=i;obtain⟨g,d⟩:=g;simp only at g d |-;by_cases q:i<c.a.length
 ·obtain⟨l,b⟩ : ∃l,c.a[i]? = some l:=(ψ)
  have r:l.length<=1048576:=p.2 l ψ
  repeat'(first|refine gE ?_|(conv=>whnf);first|with_reducible (first|refine CD (aa b) ?_|refine Bf.D (λe=>?_) (λe=>?_))|refine C8 (fw (i:Nat)) ?_)
  ·exact X0 (λz=>[B z]) (kW b d (by grind [fp])).symm
  rotate_left
  ·exact X0 (λz=>[B z]) (kW b d (by grind [fp])).symm
  have t:l.length<=8:=ω
  have u:i<=3:=ω
  (conv=>whnf)
  refine CJ (ι:=Nat × List Int) (λj=>[(1,.H .box (aE.enc .V c)),(3,.H .one [.m (fR j.2)]),(4,.H .one [I (i:Nat)]),(10,.H .one (jq .V c.a)),(11,.H .one [I c.a.length]),(12,.H .one [I (i:Nat)]),(25,.H .one (aH .V l)),(26,.H .one [I l.length]),(27,.H .one [I (j.1:Nat)])]) (λj=>j.1<=l.length/\rQ i s (l.take j.1)=some j.2) (λj=>l.length - j.1) (0,s) ?_ ⟨W0 _,rfl⟩ λj h=>?_
  ·exact wB
  obtain⟨j,k⟩:=j;obtain⟨h,a⟩:=h;simp only at h a |-;by_cases n:j<l.length
  ·obtain⟨y,o⟩ : ∃y,l[j]? = some y:=⟨_,O2 n⟩
   repeat'(first|refine gE ?_|(conv=>whnf);first|with_reducible (first|refine CD (aa b) ?_|refine CD (aa o) ?_|refine Bf.D (λe=>?_) (λe=>?_)|refine Bf.N (λe=>?_) (λe=>?_))|refine C8 (aO y 0 511) ?_|refine C8 (f9 (i:Nat)) ?_|refine CO (NQ ω) ?_|refine CS rfl ?_|refine Ml.mk (nk y k) ?_|refine Mu.mk (uz (by assumption)) ?_)
   all_goals first
    | exact X0 (λz=>[B z]) (kW b d (Pr o a λ⟨C,E,F,G⟩=>by first|contradiction|omega)).symm
    | ((conv=>whnf)
       refine CE (j+1,k++[y]) ⟨(by simp only;omega),JG o a ⟨ω,ω,(by assumption),(by assumption)⟩⟩ (by simp only;omega) ?_
       (exact wA))
  repeat'(first|refine gE ?_|fail)
  (conv=>whnf)
  rw[I7 ω]at a;refine CE (i+1,k) ⟨(by simp only;omega),(by rw[tV b d];grind [fp])⟩ (by simp only;omega) ?_;exact wB
 repeat'(first|refine gE ?_|fail)
 grind [U0,b6]
theorem HT:∀{b:List (List Int)}{k:Nat}{s c:List Int},gy k s b=some c->∀l∈b,l.length<=8
 | [],k,s,c,h,l,a=>by simp at a
 | x::b,k,s,c,h,l,a=>by
  simp only[gy]at h;unfold fp at h;split at h
  ·rename_i d
   rcases List.mem_cons.1 a with rfl|a
   ·exact d.1
   cases e:rQ k s x with
   | none=>grind
   | some f=>rw[e]at h;exact HT (show gy (k+1) f b=some c from h) l a
  cases h
theorem uO(h:b6 c=true):c.a.length=4/\∀l∈c.a,l.length<=8:=by grind [Option.isSome_iff_exists,HT,b6]
theorem z7(f:aX)(h:aX.sml f):zzA 86 false [.val (some 2) (aX.enc .V f)] .one [B (dt f)]:=by
 have C:=h.1.1;have E:f.a5.length<=1048576:=h.2;refine fO 61 [] Tryz.func86 rfl ?_
 repeat'(first|refine gP ?_|(conv=>whnf);first|with_reducible (first|refine Bf.D (λa=>?_) (λa=>?_)|refine Bf.N (λa=>?_) (λa=>?_))|refine C8 (aJ f.T.length 1 32) ?_)
 ·exact X0 (λz=>[B z]) (by grind [dt])
 rotate_left
 ·exact X0 (λz=>[B z]) (by grind [dt])
 have t:1<=f.T.length/\f.T.length<=32:=ω
 have w:f.a5.length=f.T.length:=ω
 (conv=>whnf)
 refine CJ (ι:=Nat) (λi=>[(1,.H .box (aX.enc .V f)),(3,.H .one [I (i:Nat)])]) (λi=>i<=f.T.length/\((f.T.zip f.a5).take i).all (λq=>ic q.1 q.2)=true) (λi=>f.T.length - i) 0 ?_ ψ λi j=>?_
 ·exact wB
 obtain⟨j,y⟩:=j;by_cases g:i<f.T.length
 ·obtain⟨r,c⟩ : ∃r,f.T[i]? = some r:=⟨_,O2 g⟩
  obtain⟨u,b⟩ : ∃u,f.a5[i]? = some u:=⟨_,O2 ω⟩
  repeat'(first|refine gE ?_|(conv=>whnf);first|with_reducible (first|refine CD (aa c) ?_|refine Bf.N (λa=>?_) (λa=>?_)))
  ·exact X0 (λz=>[B z]) (iD c b (by grind [ic])).symm
  have l:r.length=16:=ω
  (conv=>whnf)
  refine CJ (ι:=Nat) (λk=>[(1,.H .box (aX.enc .V f)),(3,.H .one [I (i:Nat)]),(4,.H .one [I (k:Nat)])]) (λk=>k<=16/\(r.take k).all (iG u)=true) (λk=>16 - k) 0 ?_ ψ λk n=>?_
  ·exact wB
  obtain⟨n,e⟩:=n;by_cases o:k<16
  ·obtain⟨v,d⟩ : ∃v,r[k]? = some v:=⟨_,O2 ω⟩
   cases u with
   | true=>
    repeat'(first|refine gE ?_|(conv=>whnf);first|with_reducible (first|refine CD (aa c) ?_|refine CD (aa b) ?_|refine CD (aa d) ?_|refine Bf.D (λa=>?_) (λa=>?_)|refine Bf.N (λa=>?_) (λa=>?_))|refine C8 (aJ v 0 999) ?_)
    all_goals first
     | exact X0 (λz=>[B z]) (iD c b (sJ d (by first|(unfold iG;rw[U0 ω];rfl)|(unfold iG;rw[U0 (p:=v=0) ω];simp)))).symm
     | ((conv=>whnf)
        refine CE (ι:=Nat) (k+1) ⟨ω,cV d e (by unfold iG;first|(rw[O0 ω];rfl)|(rw[O0 (p:=0<=v/\v<=999) ω,O0 (p:=v=0) ω];rfl))⟩ ω ?_
        (exact wA))
   | false=>
    repeat'(first|refine gE ?_|(conv=>whnf);first|with_reducible (first|refine CD (aa c) ?_|refine CD (aa b) ?_|refine CD (aa d) ?_|refine Bf.D (λa=>?_) (λa=>?_)|refine Bf.N (λa=>?_) (λa=>?_))|refine C8 (aJ v 0 999) ?_)
    all_goals first
     | exact X0 (λz=>[B z]) (iD c b (sJ d (by first|(unfold iG;rw[U0 ω];rfl)|(unfold iG;rw[U0 (p:=v=0) ω];simp)))).symm
     | ((conv=>whnf)
        refine CE (ι:=Nat) (k+1) ⟨ω,cV d e (by unfold iG;first|(rw[O0 ω];rfl)|(rw[O0 (p:=0<=v/\v<=999) ω,O0 (p:=v=0) ω];rfl))⟩ ω ?_
        (exact wA))
  repeat'(first|refine gE ?_|fail)
  (conv=>whnf)
  refine CE (i+1) ⟨ω,cV (wj c b) y (by grind [ic])⟩ ω ?_;exact wB
 repeat'(first|refine gE ?_|fail)
 exact X0 (λz=>[B z]) (by grind [List.length_zip,dt])
theorem qC(f:aX)(g:aX.sml f):zzA 242 false [.val (some 2) (aX.enc .V f)] .one [B (dt f)]:=by
 have C:=g.1.1;have E:f.a5.length<=1048576:=g.2;refine fO 55 [] Tryz.func242 rfl ?_
 repeat'(first|refine gP ?_|(conv=>whnf);first|with_reducible (first|refine Bf.D (λa=>?_) (λa=>?_)|refine Bf.N (λa=>?_) (λa=>?_))|refine C8 (aO f.T.length 1 32) ?_)
 ·exact X0 (λz=>[B z]) (by grind [dt])
 rotate_left
 ·exact X0 (λz=>[B z]) (by grind [dt])
 have p:1<=f.T.length/\f.T.length<=32:=ω
 have t:f.a5.length=f.T.length:=ω
 (conv=>whnf)
 refine CJ (ι:=Nat) (λi=>[(1,.H .box (aX.enc .V f)),(22,.H .one (jq .V f.T)),(23,.H .one [I (f.T.length)]),(24,.H .one [I ((i:Nat):Int)])]) (λi=>i<=f.T.length/\((f.T.zip f.a5).take i).all (λq=>ic q.1 q.2)=true) (λi=>f.T.length - i) (0) ?_ ψ λi j=>?_
 ·exact wB
 obtain⟨j,w⟩:=j;by_cases h:i<f.T.length
 ·obtain⟨r,c⟩ : ∃r,f.T[i]? = some r:=⟨_,O2 h⟩
  obtain⟨u,b⟩ : ∃u,f.a5[i]? = some u:=⟨_,O2 ω⟩
  have y:r.length<=1048576:=g.1.2 r ψ
  repeat'(first|refine gE ?_|(conv=>whnf);first|with_reducible (first|refine CD (aa c) ?_|refine Bf.N (λa=>?_) (λa=>?_)))
  ·exact X0 (λz=>[B z]) (iD c b (by grind [ic])).symm
  have l:r.length=16:=ω
  (conv=>whnf)
  refine CJ (ι:=Nat) (λk=>[(1,.H .box (aX.enc .V f)),(3,.H .one [I ((i:Nat):Int)]),(22,.H .one (jq .V f.T)),(23,.H .one [I (f.T.length)]),(24,.H .one [I ((i:Nat):Int)]),(32,.H .one (aH .V r)),(33,.H .one [I (r.length)]),(34,.H .one [I ((k:Nat):Int)])]) (λk=>k<=r.length/\(r.take k).all (iG u)=true) (λk=>r.length - k) (0) ?_ ψ λk n=>?_
  ·exact wB
  obtain⟨n,e⟩:=n;by_cases o:k<r.length
  ·obtain⟨v,d⟩ : ∃v,r[k]? = some v:=⟨_,O2 ω⟩
   cases u with
   | true=>
    repeat'(first|refine gE ?_|(conv=>whnf);first|with_reducible (first|refine CD (aa c) ?_|refine CD (aa b) ?_|refine CD (aa d) ?_|refine Bf.D (λa=>?_) (λa=>?_)|refine Bf.N (λa=>?_) (λa=>?_))|refine C8 (aO v 0 999) ?_)
    all_goals first
     | exact X0 (λz=>[B z]) (iD c b (sJ d (by unfold iG;grind))).symm
     | ((conv=>whnf)
        refine CE (ι:=Nat) (k+1) ⟨ω,cV d e (by unfold iG;grind)⟩ ω ?_
        (exact wA))
   | false=>
    repeat'(first|refine gE ?_|(conv=>whnf);first|with_reducible (first|refine CD (aa c) ?_|refine CD (aa b) ?_|refine CD (aa d) ?_|refine Bf.D (λa=>?_) (λa=>?_)|refine Bf.N (λa=>?_) (λa=>?_))|refine C8 (aO v 0 999) ?_)
    all_goals first
     | exact X0 (λz=>[B z]) (iD c b (sJ d (by unfold iG;grind))).symm
     | ((conv=>whnf)
        refine CE (ι:=Nat) (k+1) ⟨ω,cV d e (by unfold iG;grind)⟩ ω ?_
        (exact wA))
  repeat'(first|refine gE ?_|fail)
  (conv=>whnf)
  refine CE (i+1) ⟨ω,cV (wj c b) w (by grind [ic])⟩ ω ?_;exact wB
 repeat'(first|refine gE ?_|fail)
 exact X0 (λz=>[B z]) (by grind [List.length_zip,dt])
theorem BU(t:aM)(b:Int)(e:aM.sml t):zzA 469 false [.val (some 1) (aM.enc .V t),.val none [I b]] .one [B (gq t b)]:=by
 have k:=e.1;refine fO 54 [] Tryz.func469 rfl ?_
 repeat'(first|refine gP ?_|fail)
 (conv=>whnf)
 refine CJ (ι:=Nat) (λi=>[(1,.H .one [I (b)]),(2,.H .box (aM.enc .V t)),(5,.H .one [I ((i:Nat):Int)])]) (λi=>i<=t.K.length/\dd i (λj=>l7 b (nth t.K j))=true) (λi=>t.K.length - i) 0 ?_ ⟨W0 _,rfl⟩ λi c=>?_
 ·exact wB
 obtain⟨c,g⟩:=c;by_cases d:i<t.K.length
 ·have h:=au d
  repeat'(first|refine gE ?_|(conv=>whnf);first|with_reducible (first|refine CD (aa h) ?_|refine Bf.D (λa=>?_) (λa=>?_)|refine Bf.N (λa=>?_) (λa=>?_)|refine Bf.E (λa=>?_) (λa=>?_))|refine C8 (aJ _ 0 2) ?_)
  all_goals first
   | exact X0 (λz=>[B z]) ((by symm;unfold gq;rw[cz d (U0 ψ)];rfl))
   | ((conv=>whnf);refine CE (i+1) ⟨ω,bU g (O0 ψ)⟩ ω ?_;(exact wB))
 repeat'(first|refine gE ?_|(conv=>whnf);first|refine C8 (aJ _ 1 32) ?_)
 obtain rfl:i=t.K.length:=ω
 exact X0 (λz=>[B z]) ((by grind [gq]))
theorem Dx(t:aM)(b:Int)(e:aM.sml t):zzA 243 false [.val (some 1) (aM.enc .V t),.val none [I b]] .one [B (gq t b)]:=by
 have k:=e.1;refine fO 49 [] Tryz.func243 rfl ?_
 repeat'(first|refine gP ?_|fail)
 (conv=>whnf)
 refine CJ (ι:=Nat) (λi=>[(1,.H .one [I (b)]),(2,.H .box (aM.enc .V t)),(8,.H .one (FP .V t.K)),(9,.H .one [I (t.K.length)]),(10,.H .one [I ((i:Nat):Int)])]) (λi=>i<=t.K.length/\dd i (λj=>l7 b (nth t.K j))=true) (λi=>t.K.length - i) 0 ?_ ⟨W0 _,rfl⟩ λi c=>?_
 ·exact wB
 obtain⟨c,g⟩:=c;by_cases d:i<t.K.length
 ·have h:=au d
  repeat'(first|refine gE ?_|(conv=>whnf);first|with_reducible (first|refine CD (aa h) ?_|refine Bf.D (λa=>?_) (λa=>?_)|refine Bf.N (λa=>?_) (λa=>?_)|refine Bf.E (λa=>?_) (λa=>?_))|refine C8 (aO _ 0 2) ?_)
  all_goals first
   | exact X0 (λz=>[B z]) ((by symm;unfold gq;rw[cz d (U0 ψ)];rfl))
   | ((conv=>whnf);refine CE (i+1) ⟨ω,bU g (O0 ψ)⟩ ω ?_;(exact wB))
 repeat'(first|refine gE ?_|(conv=>whnf);first|refine C8 (aO _ 1 32) ?_)
 obtain rfl:i=t.K.length:=ω
 exact X0 (λz=>[B z]) ((by grind [gq]))
theorem gK(t:aM)(f:Int)(c:aM.sml t):zzA 470 false [.val (some 1) (aM.enc .V t),.val none [I f]] .one (aH .own (pagesOn t f)):=by
 have j:=c.1;refine fO 37 [] Tryz.func470 rfl ?_ (.inr (bP _))
 repeat'(first|refine gP ?_|fail)
 (conv=>whnf)
 refine CJ (ι:=Nat) (λi=>[(1,.H .one [I (f)]),(2,.H .box (aM.enc .V t)),(5,.H .one (aH .own (jY t f i))),(6,.H .one [I ((i:Nat):Int)])]) (λi=>i<=t.K.length) (λi=>t.K.length - i) (0) ?_ (W0 _) λi k=>?_
 ·exact wB
 have d:=t8 t f i;by_cases e:i<t.K.length
 ·have g:=au e
  repeat'(first|refine gE ?_|(conv=>whnf);first|with_reducible (first|refine CD (aa g) ?_|refine Bf.D (λb=>?_) (λb=>?_)|refine Bf.N (λb=>?_) (λb=>?_)|refine Bf.E (λb=>?_) (λb=>?_))|refine CU cI (λr h=>by rw[O1.1 h];rfl) (by simp[bi,eg]) (by simp;omega) (by simp only[C1];exact yJ (by simp;omega) (by decide)) rfl ?_)
  all_goals first
   |(have a:MC t f i=true:=O0 ψ
     (conv=>whnf)
     refine CE (i+1) ω ω ?_;rw[Am a]
     (repeat'(first|exact trivial|rfl|exact CL rfl (CL (X0 (C.s dQ.own) (by simp[rI])) trivial)|refine CL ?_ ?_)))
   |(have a:MC t f i=false:=U0 ψ
     (conv=>whnf)
     refine CE (i+1) ω ω ?_;rw[Gl a]
     (exact wA))
 repeat'(first|refine gE ?_|fail)
 obtain rfl:i=t.K.length:=ω
 rfl
theorem kE(t:aM)(f:Int)(c:aM.sml t):zzA 244 false [.val (some 1) (aM.enc .V t),.val none [I f]] .one (aH .own (pagesOn t f)):=by
 have j:=c.1;refine fO 32 [] Tryz.func244 rfl ?_ (.inr (bP _))
 repeat'(first|refine gP ?_|fail)
 (conv=>whnf)
 refine CJ (ι:=Nat) (λi=>[(1,.H .one [I (f)]),(5,.H .one (aH .own (jY t f i))),(10,.H .one (FP .V t.K)),(11,.H .one [I (t.K.length)]),(12,.H .one [I ((i:Nat):Int)])]) (λi=>i<=t.K.length) (λi=>t.K.length - i) (0) ?_ (W0 _) λi k=>?_
 ·exact wB
 have d:=t8 t f i;by_cases e:i<t.K.length
 ·have g:=au e
  repeat'(first|refine gE ?_|(conv=>whnf);first|with_reducible (first|refine CD (aa g) ?_|refine Bf.D (λb=>?_) (λb=>?_)|refine Bf.N (λb=>?_) (λb=>?_)|refine Bf.E (λb=>?_) (λb=>?_))|refine CU cI (λr h=>by rw[O1.1 h];rfl) (by simp[bi,eg]) (by simp;omega) (by simp only[C1];exact yJ (by simp;omega) (by decide)) rfl ?_)
  all_goals first
   |(have a:MC t f i=true:=O0 ψ
     (conv=>whnf)
     refine CE (i+1) ω ω ?_;rw[Am a]
     (repeat'(first|exact trivial|rfl|exact CL rfl (CL (X0 (C.s dQ.own) (by simp[rI])) trivial)|refine CL ?_ ?_)))
   |(have a:MC t f i=false:=U0 ψ
     (conv=>whnf)
     refine CE (i+1) ω ω ?_;rw[Gl a]
     (exact wA))
 repeat'(first|refine gE ?_|fail)
 obtain rfl:i=t.K.length:=ω
 rfl
def di(t:aM)(p:Int)(b:aM.sml t):zzA 34 false [.val (some 1) (aM.enc .V t),.val none [I p]] .agg (bk.enc .own (af t p)):=by
 have d:=b.1;refine fO 18 [] Tryz.func34 rfl ?_ (.inr (bk.enc_fr _));by_cases a:0<=p/\p<t.K.length
 ·have c:=au (xs:=t.K) (i:=p.toNat) ω
  repeat'(first|refine gE ?_|(conv=>whnf);first|refine C8 (aJ _ 0 _) ?_|refine CN a.1 (aa c) ?_)
  all_goals(unfold af;rw[CC a];rfl)
 repeat'(first|refine gE ?_|(conv=>whnf);first|refine C8 (aJ _ 0 _) ?_)
 all_goals(unfold af;rw[C9 a];rfl)
def lA(t:aM)(p:Int)(b:aM.sml t):zzA 104 false [.val (some 1) (aM.enc .V t),.val none [I p]] .agg (bk.enc .own (af t p)):=by
 have d:=b.1;refine fO 18 [] Tryz.func104 rfl ?_ (.inr (bk.enc_fr _));by_cases a:0<=p/\p<t.K.length
 ·have c:=au (xs:=t.K) (i:=p.toNat) ω
  repeat'(first|refine gE ?_|(conv=>whnf);first|refine C8 (aO _ 0 _) ?_|refine CN a.1 (aa c) ?_)
  all_goals(unfold af;rw[CC a];rfl)
 repeat'(first|refine gE ?_|(conv=>whnf);first|refine C8 (aO _ 0 _) ?_)
 all_goals(unfold af;rw[C9 a];rfl)
def r6(t:aM)(f:Int):(pagesOn t f).length<=t.K.length:=t8 ..
theorem pC(m:aY)(a:aY.sml m):zzA 350 false [.val (some 3) (aY.enc .V m)] .one [B (d8 m)]:=by
 have q:m.W.a5.length<=1048576:=a.1.2;have k:m.W.T.length<=1048576:=a.1.1.1;have b:=z7 m.W a.1;have c:=BU m.R m.W.T.length a.2;cases d:dt m.W with
 | false=>
  rw[d]at b;refine fO 39 [(6,13,[26,27,28,29,30,31,32,33,34,35,36,37,38])] Tryz.func350 rfl ?_
  repeat'(first|refine gP ?_|(conv=>whnf);first|refine C8 b ?_)
  exact X0 (λz=>[B z]) ((by grind [d8]))
 | true=>
  have g:=Dy d;rw[d]at b;cases e:gq m.R m.W.a5.length with
  | false=>
   rw[show(m.W.T.length:Int)=m.W.a5.length by omega,e]at c;refine fO 39 [(6,13,[26,27,28,29,30,31,32,33,34,35,36,37,38])] Tryz.func350 rfl ?_
   repeat'(first|refine gP ?_|(conv=>whnf);first|refine C8 b ?_|refine C8 ((show(m.W.T.length:Int)=m.W.a5.length by omega) ▸ c) ?_)
   exact X0 (λz=>[B z]) ((by grind [d8]))
  | true=>
   rw[show(m.W.T.length:Int)=m.W.a5.length by omega,e]at c;refine fO 39 [(6,13,[26,27,28,29,30,31,32,33,34,35,36,37,38])] Tryz.func350 rfl ?_
   repeat'(first|refine gP ?_|(conv=>whnf);first|refine C8 b ?_|refine C8 ((show(m.W.T.length:Int)=m.W.a5.length by omega) ▸ c) ?_)
   (conv=>whnf)
   refine CJ (ι:=Nat) (λi=>[(1,.H .box (aY.enc .V m)),(3,.H .one [I ((i:Nat):Int)])]) (λi=>i<=m.W.a5.length/\dd i (oT m)=true) (λi=>m.W.a5.length - i) 0 ?_ ⟨W0 _,rfl⟩ λi h=>?_
   ·exact wB
   obtain⟨h,l⟩:=h;by_cases j:i<m.W.a5.length
   ·have n:=au j
    have o:=r6 m.R (i:Nat)
    repeat'(first|refine gE ?_|(conv=>whnf);first|with_reducible (first|refine CD (aa n) ?_|refine Bf.NB (λp=>?_) (λp=>?_))|refine C8 (gK m.R (i:Nat) a.2) ?_)
    all_goals first
     | exact X0 (λz=>[B z]) ((by symm;unfold d8;rw[d,e,cz j (by unfold oT;grind)];rfl))
     | ((conv=>whnf);refine CE (i+1) ⟨ω,bU l (by unfold oT;grind)⟩ ω ?_;(exact wB))
   repeat'(first|refine gE ?_|fail)
   obtain rfl:i=m.W.a5.length:=ω
   exact X0 (λz=>[B z]) ((by grind [d8]))
theorem xw(m:aY)(b:aY.sml m):zzA 87 false [.val (some 3) (aY.enc .V m)] .one [B (d8 m)]:=by
 have o:m.W.a5.length<=1048576:=b.1.2;have a:=qC m.W b.1;have c:=Dx m.R m.W.a5.length b.2;cases d:dt m.W with
 | false=>
  rw[d]at a;refine fO 37 [] Tryz.func87 rfl ?_
  repeat'(first|refine gP ?_|(conv=>whnf);first|refine C8 a ?_)
  exact X0 (λz=>[B z]) ((by grind [d8]))
 | true=>
  rw[d]at a;cases e:gq m.R m.W.a5.length with
  | false=>
   rw[e]at c;refine fO 37 [] Tryz.func87 rfl ?_
   repeat'(first|refine gP ?_|(conv=>whnf);first|refine C8 a ?_|refine C8 c ?_)
   exact X0 (λz=>[B z]) ((by grind [d8]))
  | true=>
   rw[e]at c;refine fO 37 [] Tryz.func87 rfl ?_
   repeat'(first|refine gP ?_|(conv=>whnf);first|refine C8 a ?_|refine C8 c ?_)
   (conv=>whnf)
   refine CJ (ι:=Nat) (λi=>[(1,.H .box (aY.enc .V m)),(21,.H .one (wS .V m.W.a5)),(22,.H .one [I (m.W.a5.length)]),(23,.H .one [I ((i:Nat):Int)])]) (λi=>i<=m.W.a5.length/\dd i (oT m)=true) (λi=>m.W.a5.length - i) 0 ?_ ⟨W0 _,rfl⟩ λi g=>?_
   ·exact wB
   obtain⟨g,j⟩:=g;by_cases h:i<m.W.a5.length
   ·have k:=au h
    have l:=r6 m.R (i:Nat)
    repeat'(first|refine gE ?_|(conv=>whnf);first|with_reducible (first|refine CD (aa k) ?_|refine Bf.NB (λn=>?_) (λn=>?_))|refine C8 (kE m.R (i:Nat) b.2) ?_)
    all_goals first
     | exact X0 (λz=>[B z]) ((by symm;unfold d8;rw[d,e,cz h (by unfold oT;grind)];rfl))
     | ((conv=>whnf);refine CE (i+1) ⟨ω,bU j (by unfold oT;grind)⟩ ω ?_;(exact wB))
   repeat'(first|refine gE ?_|fail)
   obtain rfl:i=m.W.a5.length:=ω
   exact X0 (λz=>[B z]) ((by grind [d8]))
def mz(k:am)(d:am.sml k):zzA 208 false [.val (some 5) (am.enc .V k)] .one [B (aF k)]:=by
 have n:k.a0.length<=1048576:=d.2;have a:=pC k.F d.1;refine fO 31 [] Tryz.func208 rfl ?_
 repeat'(first|refine gP ?_|fail)
 (conv=>whnf)
 refine CJ (ι:=Nat) (λi=>[(1,.H .box (am.enc .V k)),(3,.H .one [I ((i:Nat):Int)])]) (λi=>i<=k.a0.length/\dd i (λj=>decide (0<=nth k.a0 j))=true) (λi=>k.a0.length - i) 0 ?_ ⟨W0 _,rfl⟩ λi e=>?_
 ·exact wB
 obtain⟨e,g⟩:=e;by_cases h:i<k.a0.length
 ·have l:=au h
  repeat'(first|refine gE ?_|(conv=>whnf);first|with_reducible (first|refine CD (aa l) ?_|refine Bf.D (λc=>?_) (λc=>?_)))
  all_goals first
   | exact X0 (λz=>[B z]) ((by symm;unfold aF;rw[cz h (U0 ω)];rfl))
   | ((conv=>whnf);refine CE (i+1) ⟨ω,bU g (O0 ω)⟩ ω ?_;(exact wB))
 obtain rfl:i=k.a0.length:=ω
 cases b:d8 k.F with
 | false=>
  rw[b]at a
  repeat'(first|refine gE ?_|(conv=>whnf);first|refine C8 a ?_)
  all_goals exact X0 (λz=>[B z]) ((by unfold aF;rw[b];simp))
 | true=>
  rw[b]at a
  repeat'(first|refine gE ?_|(conv=>whnf);first|with_reducible refine Bf.D (λc=>?_) (λc=>?_)|refine C8 a ?_|refine C8 (aJ _ 0 100000) ?_)
  all_goals exact X0 (λz=>[B z]) ((by unfold aF;rw[b,g];simp only[Bool.true_and];first|exact decide_eq_decide.2 ω|(symm;exact U0 ω)|(symm;exact O0 ω)))
def qF(k:am)(b:am.sml k):zzA 26 false [.val (some 5) (am.enc .V k)] .one [B (aF k)]:=by
 have l:k.a0.length<=1048576:=b.2;have g:=xw k.F b.1;refine fO 29 [] Tryz.func26 rfl ?_
 repeat'(first|refine gP ?_|fail)
 (conv=>whnf)
 refine CJ (ι:=Nat) (λi=>[(1,.H .box (am.enc .V k)),(6,.H .one (aH .V k.a0)),(7,.H .one [I (k.a0.length)]),(8,.H .one [I ((i:Nat):Int)])]) (λi=>i<=k.a0.length/\dd i (λj=>decide (0<=nth k.a0 j))=true) (λi=>k.a0.length - i) 0 ?_ ⟨W0 _,rfl⟩ λi c=>?_
 ·exact wB
 obtain⟨c,d⟩:=c;by_cases e:i<k.a0.length
 ·have h:=au e
  repeat'(first|refine gE ?_|(conv=>whnf);first|with_reducible (first|refine CD (aa h) ?_|refine Bf.D (λa=>?_) (λa=>?_)))
  all_goals first
   | exact X0 (λz=>[B z]) ((by symm;unfold aF;rw[cz e (U0 ω)];rfl))
   | ((conv=>whnf);refine CE (i+1) ⟨ω,bU d (O0 ω)⟩ ω ?_;(exact wB))
 obtain rfl:i=k.a0.length:=ω
 repeat'(first|refine gE ?_|(conv=>whnf);first|with_reducible refine Bf.D (λa=>?_) (λa=>?_)|refine C8 g ?_|refine C8 (aO _ 0 100000) ?_)
 all_goals exact X0 (λz=>[B z]) ((by unfold aF;rw[d];cases d8 k.F<;>simp only[Bool.true_and,Bool.false_and]<;>first|rfl|exact decide_eq_decide.2 ω|(symm;exact U0 ω)|(symm;exact O0 ω)))
def xO(pages:Int)(r:aB)(b:0<=pages/\pages<=1048576):zzA 351 false [.val none [I pages],.val (some 2) (aB.enc .V r)] .one [B (rangeIn pages r)]:=by
 refine fO 18 [] Tryz.func351 rfl ?_
 repeat'(first|refine gP ?_|(conv=>whnf);first|with_reducible refine Bf.D (λa=>?_) (λa=>?_)|refine C8 (aJ _ 1 _) ?_|refine C8 (aJ _ 0 _) ?_)
 all_goals exact X0 (λz=>[B z]) ((by unfold rangeIn;first|(symm;exact U0 ω)|exact decide_eq_decide.2 ω))
def Gx(pages:Int)(r:aB)(b:0<=pages/\pages<=1048576):zzA 223 false [.val none [I pages],.val (some 2) (aB.enc .V r)] .one [B (rangeIn pages r)]:=by
 refine fO 18 [] Tryz.func223 rfl ?_
 repeat'(first|refine gP ?_|(conv=>whnf);first|with_reducible refine Bf.D (λa=>?_) (λa=>?_)|refine C8 (aO _ 1 _) ?_|refine C8 (aO _ 0 _) ?_)
 all_goals exact X0 (λz=>[B z]) ((by unfold rangeIn;first|(symm;exact U0 ω)|exact decide_eq_decide.2 ω))
theorem om(k:Int):zzA 472 false [.val none [I k]] .one [I (slots k)]:=by
 by_cases b:0<=k/\k<=3
 ·obtain rfl|rfl|rfl|rfl:k=0\/k=1\/k=2\/k=3:=ω
  all_goals
   refine fO 9 [] Tryz.func472 rfl ?_
   repeat'(first|refine gE ?_|(conv=>whnf);first|with_reducible refine Bf.D (λa=>?_) (λa=>?_)|refine C8 (aJ _ 0 3) ?_|refine CO (by decide) ?_|refine CM rfl ?_|refine CS rfl ?_)
   exact X0 (λz=>[I z]) (by decide)
 refine fO 9 [] Tryz.func472 rfl ?_
 repeat'(first|refine gE ?_|(conv=>whnf);first|with_reducible refine Bf.D (λa=>?_) (λa=>?_)|refine C8 (aJ _ 0 3) ?_)
 exact X0 (λz=>[I z]) (by grind [slots])
theorem fV(k:Int):zzA 335 false [.val none [I k]] .one [I (slots k)]:=by
 by_cases b:0<=k/\k<=3
 ·obtain rfl|rfl|rfl|rfl:k=0\/k=1\/k=2\/k=3:=ω
  all_goals
   refine fO 9 [] Tryz.func335 rfl ?_
   repeat'(first|refine gE ?_|(conv=>whnf);first|with_reducible refine Bf.D (λa=>?_) (λa=>?_)|refine C8 (fw _) ?_|refine C8 (f9 _) ?_|refine CO (by decide) ?_|refine CM rfl ?_|refine CS rfl ?_)
   exact X0 (λz=>[I z]) (by decide)
 refine fO 9 [] Tryz.func335 rfl ?_
 repeat'(first|refine gE ?_|(conv=>whnf);first|with_reducible refine Bf.D (λa=>?_) (λa=>?_)|refine C8 (fw _) ?_)
 exact X0 (λz=>[I z]) (by grind [slots])
def KH(k b:Int):Bool:=decide (0<=k/\k<=3/\0<=b/\b<=lim k)
theorem qM(k b:Int):zzA 471 false [.val none [I (slots k)],.val none [I b]] .one [B (KH k b)]:=by
 by_cases d:0<=k/\k<=3
 ·obtain rfl|rfl|rfl|rfl:k=0\/k=1\/k=2\/k=3:=ω
  all_goals
   first|rw[show slots 0=16 from rfl]|rw[show slots 1=8 from rfl]|rw[show slots 2=4 from rfl]|rw[show slots 3=2 from rfl]
   refine fO 15 [] Tryz.func471 rfl ?_
   repeat'(first|refine gE ?_|(conv=>whnf);first|with_reducible refine Bf.D (λa=>?_) (λa=>?_)|refine C8 (aJ _ 1 16) ?_|refine C8 (aJ _ 0 _) ?_|refine CO (by decide) ?_|refine CM (show _=(65536:Int) by decide) ?_|refine CM (show _=(65535:Int) by decide) ?_|refine CM (show _=(256:Int) by decide) ?_|refine CM (show _=(255:Int) by decide) ?_|refine CM (show _=(16:Int) by decide) ?_|refine CM (show _=(15:Int) by decide) ?_|refine CM (show _=(4:Int) by decide) ?_|refine CM (show _=(8:Int) by decide) ?_|refine CM (show _=(2:Int) by decide) ?_|refine CM (show _=(3:Int) by decide) ?_)
   all_goals exact X0 (λz=>[B z]) ((decide_eq_decide.2 (by simp[lim])))
 have c:slots k=0:=by grind [slots]
 rw[c];refine fO 15 [] Tryz.func471 rfl ?_
 repeat'(first|refine gE ?_|(conv=>whnf);first|with_reducible refine Bf.D (λa=>?_) (λa=>?_)|refine C8 (aJ _ 1 16) ?_)
 exact X0 (λz=>[B z]) ((by symm;exact U0 ω))
theorem qL(k b:Int):zzA 375 false [.val none [I (slots k)],.val none [I b]] .one [B (KH k b)]:=by
 by_cases d:0<=k/\k<=3
 ·obtain rfl|rfl|rfl|rfl:k=0\/k=1\/k=2\/k=3:=ω
  all_goals
   first|rw[show slots 0=16 from rfl]|rw[show slots 1=8 from rfl]|rw[show slots 2=4 from rfl]|rw[show slots 3=2 from rfl]
   refine fO 14 [] Tryz.func375 rfl ?_
   repeat'(first|refine gE ?_|(conv=>whnf);first|with_reducible refine Bf.D (λa=>?_) (λa=>?_)|refine C8 (aO _ 1 16) ?_|refine C8 (aO _ 0 _) ?_|refine CO (by decide) ?_|refine CM (fQ (by decide) (by decide)) ?_)
   all_goals exact X0 (λz=>[B z]) ((decide_eq_decide.2 (by simp[lim,IntKind.bits])))
 have c:slots k=0:=by grind [slots]
 rw[c];refine fO 14 [] Tryz.func375 rfl ?_
 repeat'(first|refine gE ?_|(conv=>whnf);first|with_reducible refine Bf.D (λa=>?_) (λa=>?_)|refine C8 (aO _ 1 16) ?_)
 exact X0 (λz=>[B z]) ((by symm;exact U0 ω))
def gx(s:aA):zzA 352 false [.val (some 3) (aA.enc .V s)] .one [B (bh s)]:=by
 refine fO 14 [(1,12,[3,4,5,6,7,8,9,10,11,12,13,2])] Tryz.func352 rfl ?_
 repeat'(first|refine gP ?_|(conv=>whnf);first|with_reducible refine Bf.D (λa=>?_) (λa=>?_)|refine C8 (aJ _ 0 31) ?_|refine C8 (om _) ?_|refine C8 (qM _ _) ?_)
 all_goals exact X0 (λz=>[B z]) ((by unfold bh;first|(symm;exact U0 ω)|exact decide_eq_decide.2 ω))
def jN(s:aA):zzA 225 false [.val (some 3) (aA.enc .V s)] .one [B (bh s)]:=by
 refine fO 19 [(1,17,[3,4,5,6,7,8,9,10,11,12,13,14,15,16,17,18,2])] Tryz.func225 rfl ?_
 repeat'(first|refine gP ?_|(conv=>whnf);first|with_reducible refine Bf.D (λa=>?_) (λa=>?_)|refine C8 (aO _ 0 31) ?_|refine C8 (fw _) ?_|refine C8 (fV _) ?_|refine C8 (qL _ _) ?_)
 all_goals exact X0 (λz=>[B z]) ((by unfold bh;first|(symm;exact U0 ω)|exact decide_eq_decide.2 ω))
section
variable{α:Type}{xs:List α}{p:α->Bool}{i:Nat}{y:α}
theorem Dj(h:xs[i]? = some y)(a:p y=true):xs.any p=true:=t4.2 ψ
theorem xy(h:xs[i]? = some y)(a:(xs.take i).any p=false)(b:p y=false):(xs.take (i+1)).any p=false:=by grind [V5]
theorem TB(a:xs.length<=i)(b:(xs.take i).any p=false):xs.any p=false:=by grind [I7]
theorem gr[Inhabited α](a:0<i)(b:i<xs.length):xs[((i:Int) - 1).toNat]? = some (nth xs (i - 1)):=by
 rw[show((i:Int) - 1).toNat=i - 1 by omega];grind [au]
end
theorem wD{pages:Int}{xs:List aB}(a:dd n (gm pages xs)=true)(b:i<n):1<=(nth xs i).a8/\(nth xs i).a8<=pages/\0<=(nth xs i).At/\(nth xs i).At<=pages - (nth xs i).a8:=by grind [fj,gm,rangeIn]
theorem m9(pages:Int)(xs:List aB)(d:0<=pages/\pages<=1048576)(k:gw xs):zzA 209 false [.val none [I pages],.val none (bv .V xs)] .one [B (bC pages xs)]:=by
 have n:=k.1;refine fO 46 [(4,32,[12,13,14,15,16,17,18,19,20,21,22,23,24,25,26,27,28,29,30,31,32,33,34,35,36,37,38,39,40,41,42,43])] Tryz.func209 rfl ?_
 repeat'(first|refine gP ?_|fail)
 (conv=>whnf)
 refine CJ (ι:=Nat) (λi=>[(0,.H .one [I (pages)]),(1,.H .one (bv .V xs)),(5,.H .one [I ((i:Nat):Int)])]) (λi=>i<=xs.length/\dd i (gm pages xs)=true) (λi=>xs.length - i) 0 ?_ ⟨W0 _,rfl⟩ λi e=>?_
 ·exact wB
 obtain⟨e,g⟩:=e;by_cases c:i<xs.length
 ·have j:=au c
  have o:0<i->1<=(nth xs (i - 1)).a8/\(nth xs (i - 1)).a8<=pages/\0<=(nth xs (i - 1)).At/\(nth xs (i - 1)).At<=pages - (nth xs (i - 1)).a8:=λh=>wD g ω
  cases b:rangeIn pages (nth xs i) with
  | false=>
   have a:=xO pages (nth xs i) d;rw[b]at a
   repeat'(first|refine gE ?_|(conv=>whnf);first|with_reducible refine CD (aa j) ?_|refine C8 a ?_)
   exact X0 (λz=>[B z]) ((by grind [cz,bC,gm]))
  | true=>
   have a:=xO pages (nth xs i) d;rw[b]at a
   repeat'(first|refine gE ?_|(conv=>whnf);first|with_reducible (first|refine CD (aa j) ?_|refine Bf.D (λl=>?_) (λl=>?_))|refine C8 a ?_|refine CN ω (aa (gr ω c)) ?_)
   all_goals first
    | exact X0 (λz=>[B z]) ((by symm;unfold bC;rw[cz c (by unfold gm;rw[b,U0 ω];rfl)];rfl))
    | ((conv=>whnf);refine CE (i+1) ⟨ω,bU g (by unfold gm;rw[b,O0 ω];rfl)⟩ ω ?_;(exact wB))
 repeat'(first|refine gE ?_|(conv=>whnf);first|refine C8 (aJ pages 1 32) ?_)
 grind [bC]
theorem qD(pages:Int)(xs:List aB)(j:0<=pages/\pages<=1048576)(k:gw xs):zzA 75 false [.val none [I pages],.val none (bv .V xs)] .one [B (bC pages xs)]:=by
 have n:=k.1;refine fO 43 [(4,26,[14,15,16,17,18,19,20,21,22,23,24,25,26,27,28,29,30,31,32,33,34,35,36,37,38,39])] Tryz.func75 rfl ?_
 repeat'(first|refine gP ?_|fail)
 (conv=>whnf)
 refine CJ (ι:=Nat) (λi=>[(0,.H .one [I (pages)]),(1,.H .one (bv .V xs)),(7,.H .one (bv .V xs)),(8,.H .one [I (xs.length)]),(9,.H .one [I ((i:Nat):Int)])]) (λi=>i<=xs.length/\dd i (gm pages xs)=true) (λi=>xs.length - i) 0 ?_ ⟨W0 _,rfl⟩ λi d=>?_
 ·exact wB
 obtain⟨d,e⟩:=d;by_cases c:i<xs.length
 ·have g:=au c
  have o:0<i->1<=(nth xs (i - 1)).a8/\(nth xs (i - 1)).a8<=pages/\0<=(nth xs (i - 1)).At/\(nth xs (i - 1)).At<=pages - (nth xs (i - 1)).a8:=λh=>wD e ω
  have a:=Gx pages (nth xs i) j;cases b:rangeIn pages (nth xs i) with
  | false=>
   rw[b]at a
   repeat'(first|refine gE ?_|(conv=>whnf);first|with_reducible refine CD (aa g) ?_|refine C8 a ?_)
   exact X0 (λz=>[B z]) ((by grind [cz,bC,gm]))
  | true=>
   rw[b]at a
   repeat'(first|refine gE ?_|(conv=>whnf);first|with_reducible (first|refine CD (aa g) ?_|refine Bf.D (λl=>?_) (λl=>?_))|refine C8 a ?_|refine CN ω (aa (gr ω c)) ?_)
   all_goals first
    | exact X0 (λz=>[B z]) ((by symm;unfold bC;rw[cz c (by unfold gm;rw[b,U0 ω];rfl)];rfl))
    | ((conv=>whnf);refine CE (i+1) ⟨ω,bU e (by unfold gm;rw[b,O0 ω];rfl)⟩ ω ?_;(exact wB))
 repeat'(first|refine gE ?_|(conv=>whnf);first|refine C8 (aO pages 1 32) ?_)
 grind [bC]
theorem zj(xs:List aB)(page:Int)(g:xs.length<=9223372036854775807):zzA 356 false [.val none (bv .V xs),.val none [I page]] .one [B (xs.any (vG page))]:=by
 refine fO 34 [(4,22,[12,13,14,15,16,17,18,19,20,21,22,23,24,25,26,27,28,29,30,31,32,33])] Tryz.func356 rfl ?_
 repeat'(first|refine gP ?_|fail)
 (conv=>whnf)
 refine CJ (ι:=Nat) (λi=>[(0,.H .one (bv .V xs)),(1,.H .one [I (page)]),(5,.H .one [I ((i:Nat):Int)])]) (λi=>i<=xs.length/\(xs.take i).any (vG page)=false) (λi=>xs.length - i) (0) ?_ ψ λi b=>?_
 ·exact wB
 obtain⟨b,c⟩:=b;by_cases d:i<xs.length
 ·have a:=au d
  repeat'(first|refine gE ?_|(conv=>whnf);first|with_reducible (first|refine CD (aa a) ?_|refine Bf.D (λe=>?_) (λe=>?_))|refine CM rfl ?_)
  all_goals first
   | exact X0 (λz=>[B z]) ((Dj a (by unfold vG;rw[O0 (by assumption),O0 (by assumption)];rfl)).symm)
   | ((conv=>whnf);refine CE (i+1) ⟨ω,xy a c (by unfold vG;first|(rw[U0 (by assumption:¬(nth xs i).At<=page)];rfl)|(rw[U0 (by assumption:¬page<_)];simp))⟩ ω ?_;(exact wB))
 repeat'(first|refine gE ?_|fail)
 exact X0 (λz=>[B z]) ψ
variable{z:Int}
def tdiv16(h:0<=z):z.tdiv 16=z / 16:=Int.tdiv_eq_ediv_of_nonneg h
theorem m7(z:Int):zzA 370 false [.val none [I z]] .one [I (eR z)]:=by
 refine fO 10 [] Tryz.func370 rfl ?_;by_cases b:9<=z/\z<=1000
 ·repeat'(first|refine gE ?_|(conv=>whnf);first|with_reducible refine Bf.D (λa=>?_) (λa=>?_)|refine C8 (aJ z 9 1000) ?_|refine CO (by decide) ?_|refine CM ((X0 _ (tdiv16 ω)).trans (fQ ω ω)) ?_)
  grind [eR]
 repeat'(first|refine gE ?_|(conv=>whnf);first|with_reducible refine Bf.D (λa=>?_) (λa=>?_)|refine C8 (aJ z 9 1000) ?_)
 all_goals exact X0 (λz=>[I z]) (by unfold eR;rw[C9 b])
theorem qN(z:Int):zzA 191 false [.val none [I z]] .one [I (eR z)]:=by
 refine fO 10 [] Tryz.func191 rfl ?_;by_cases b:9<=z/\z<=1000
 ·repeat'(first|refine gE ?_|(conv=>whnf);first|with_reducible refine Bf.D (λa=>?_) (λa=>?_)|refine C8 (aO z 9 1000) ?_|refine CO (by decide) ?_|refine CM ((X0 _ (tdiv16 ω)).trans (fQ ω ω)) ?_)
  grind [eR]
 repeat'(first|refine gE ?_|(conv=>whnf);first|with_reducible refine Bf.D (λa=>?_) (λa=>?_)|refine C8 (aO z 9 1000) ?_)
 all_goals exact X0 (λz=>[I z]) (by unfold eR;rw[C9 b])
def n9(l:aD):zzA 354 false [.val (some 3) (aD.enc .V l)] .one [B (bN l)]:=by
 have b:=m7 l.q;by_cases c:9<=l.q/\l.q<=1000
 ·rw[show eR l.q=(l.q+15) / 16 from CC c]at b
  refine fO 22 [] Tryz.func354 rfl ?_
  repeat'(first|refine gP ?_|(conv=>whnf);first|with_reducible (first|refine Bf.D (λa=>?_) (λa=>?_)|refine Bf.E (λa=>?_) (λa=>?_))|refine C8 b ?_|refine C8 (aJ _ 0 _) ?_)
  all_goals exact X0 (λz=>[B z]) ((by unfold bN;first|(symm;exact U0 ω)|exact decide_eq_decide.2 ω))
 rw[show eR l.q=0 from C9 c]at b;refine fO 22 [] Tryz.func354 rfl ?_
 repeat'(first|refine gE ?_|(conv=>whnf);first|with_reducible refine Bf.D (λa=>?_) (λa=>?_)|refine C8 b ?_)
 all_goals exact X0 (λz=>[B z]) ((by unfold bN;symm;exact U0 ω))
def sq(l:aD):zzA 226 false [.val (some 3) (aD.enc .V l)] .one [B (bN l)]:=by
 have b:=qN l.q;by_cases c:9<=l.q/\l.q<=1000
 ·rw[show eR l.q=(l.q+15) / 16 from CC c]at b
  refine fO 22 [(1,20,[3,4,5,6,7,8,9,10,11,12,13,14,15,16,17,18,19,20,21,2])] Tryz.func226 rfl ?_
  repeat'(first|refine gE ?_|(conv=>whnf);first|with_reducible (first|refine Bf.D (λa=>?_) (λa=>?_)|refine Bf.E (λa=>?_) (λa=>?_))|refine C8 b ?_|refine C8 (aO _ 9 1000) ?_|refine C8 (aO _ 0 _) ?_)
  all_goals exact X0 (λz=>[B z]) ((by unfold bN;first|(symm;exact U0 ω)|exact decide_eq_decide.2 ω))
 refine fO 22 [(1,20,[3,4,5,6,7,8,9,10,11,12,13,14,15,16,17,18,19,20,21,2])] Tryz.func226 rfl ?_
 repeat'(first|refine gE ?_|(conv=>whnf);first|with_reducible refine Bf.D (λa=>?_) (λa=>?_)|refine C8 (aO _ 9 1000) ?_)
 all_goals exact X0 (λz=>[B z]) ((by unfold bN;symm;exact U0 ω))
theorem pO(h:0<=z/\z<=9223372036854775807):(BitVec.ofInt IntKind.i64.bits z).toNat=z.toNat:=by
 show(BitVec.ofInt 64 z).toNat=z.toNat
 grind
theorem and64{z1 z2:Int}(h1:0<=z1/\z1<=9223372036854775807)(a:0<=z2/\z2<=9223372036854775807):IntKind.i64.wrap ((BitVec.ofInt IntKind.i64.bits z1 &&& BitVec.ofInt IntKind.i64.bits z2).toNat:Nat)=((z1.toNat &&& z2.toNat:Nat):Int):=by grind [pO,Nat.and_le_left,fQ]
theorem GT(k:Int):lim k<=65535:=by grind [lim]
variable{s:aA}
def fN(h:bh s=true):0<=s.a9/\s.a9<=9223372036854775807:=by
 unfold bh at h;simp only[C0]at h;have:=GT s.d;omega
def my(b c:aA):zzA 357 false [.val (some 3) (aA.enc .V b),.val (some 3) (aA.enc .V c)] .one [B (meshable b c)]:=by
 have g:=gx b;have h:=gx c;cases d:bh b<;>rw[d]at g<;>cases e:bh c<;>rw[e]at h
 all_goals
  refine fO 33 [] Tryz.func357 rfl ?_
  repeat'(first|refine gP ?_|(conv=>whnf);first|with_reducible (first|refine Bf.D (λa=>?_) (λa=>?_)|refine Bf.N (λa=>?_) (λa=>?_)|refine Bf.E (λa=>?_) (λa=>?_))|refine C8 g ?_|refine C8 h ?_|refine CM (and64 (fN d) (fN e)) ?_)
  all_goals exact X0 (λz=>[B z]) ((by unfold meshable;rw[d,e];first|rfl|(symm;exact U0 ω)|(rw[Y4];simp;omega)))
def zB(b c:aA):zzA 229 false [.val (some 3) (aA.enc .V b),.val (some 3) (aA.enc .V c)] .one [B (meshable b c)]:=by
 have g:=jN b;have h:=jN c;cases d:bh b<;>rw[d]at g<;>cases e:bh c<;>rw[e]at h
 all_goals
  refine fO 33 [] Tryz.func229 rfl ?_
  repeat'(first|refine gP ?_|(conv=>whnf);first|with_reducible (first|refine Bf.D (λa=>?_) (λa=>?_)|refine Bf.N (λa=>?_) (λa=>?_)|refine Bf.E (λa=>?_) (λa=>?_))|refine C8 g ?_|refine C8 h ?_|refine CM (and64 (fN d) (fN e)) ?_)
  all_goals exact X0 (λz=>[B z]) ((by unfold meshable;rw[d,e];first|rfl|(symm;exact U0 ω)|(rw[Y4];simp;omega)))
def Kv(k:Int):zzA 384 false [.val none [I k]] .one [B (decide (0<=k/\k<=15))]:=by
 refine fO 5 [] Tryz.func384 rfl ?_
 repeat'(first|refine gP ?_|(conv=>whnf);first|refine C8 (aO k 0 15) ?_)
 rfl
def vd(p:cx)(e:cx.sml p):zzA 365 false [.val (some 3) (cx.enc .V p)] .one [B (eM p)]:=by
 have h:p.T.length<=1048576:=e;refine fO 51 [(4,25,[11,12,13,14,15,16,17,18,19,20,21,22,23,24,25,26,27,28,29,30,31,32,33,34,35])] Tryz.func365 rfl ?_
 repeat'(first|refine gP ?_|fail)
 (conv=>whnf)
 refine CJ (ι:=Nat) (λi=>[(1,.H .box (cx.enc .V p)),(3,.H .one [I ((i:Nat):Int)])]) (λi=>i<=p.T.length/\dd i (m6 p.T)=true) (λi=>p.T.length - i) 0 ?_ ⟨W0 _,rfl⟩ λi c=>?_
 ·exact wB
 obtain⟨c,d⟩:=c;by_cases b:i<p.T.length
 ·have g:=au b
  repeat'(first|refine gE ?_|(conv=>whnf);first|with_reducible (first|refine CD (aa g) ?_|refine Bf.D (λa=>?_) (λa=>?_))|refine C8 (aJ _ 0 15) ?_|refine CN ω (aa (gr ω b)) ?_)
  all_goals first
   | exact X0 (λz=>[B z]) ((by symm;unfold eM;rw[cz b (U0 ω)];rfl))
   | ((conv=>whnf);refine CE (i+1) ⟨ω,bU d (O0 ω)⟩ ω ?_;(exact wB))
 obtain rfl:i=p.T.length:=ω
 repeat'(first|refine gE ?_|(conv=>whnf);first|with_reducible (first|refine Bf.D (λa=>?_) (λa=>?_)|refine Bf.NB (λa=>?_) (λa=>?_)|refine Bf.N (λa=>?_) (λa=>?_))|refine C8 (aJ _ 0 31) ?_)
 all_goals exact X0 (λz=>[B z]) ((by unfold eM;rw[d];simp only[Bool.true_and];first|(symm;exact U0 ω)|exact decide_eq_decide.2 ω|(rw[Y4];simp;omega)))
def ET(p:cx)(e:cx.sml p):zzA 239 false [.val (some 3) (cx.enc .V p)] .one [B (eM p)]:=by
 have h:p.T.length<=1048576:=e;refine fO 46 [] Tryz.func239 rfl ?_
 repeat'(first|refine gP ?_|fail)
 (conv=>whnf)
 refine CJ (ι:=Nat) (λi=>[(1,.H .box (cx.enc .V p)),(6,.H .one (aH .V p.T)),(7,.H .one [I (p.T.length)]),(8,.H .one [I ((i:Nat):Int)])]) (λi=>i<=p.T.length/\dd i (m6 p.T)=true) (λi=>p.T.length - i) 0 ?_ ⟨W0 _,rfl⟩ λi c=>?_
 ·exact wB
 obtain⟨c,d⟩:=c;by_cases b:i<p.T.length
 ·have g:=au b
  repeat'(first|refine gE ?_|(conv=>whnf);first|with_reducible (first|refine CD (aa g) ?_|refine Bf.D (λa=>?_) (λa=>?_))|refine C8 (Kv _) ?_|refine CN ω (aa (gr ω b)) ?_)
  all_goals first
   | exact X0 (λz=>[B z]) ((by symm;unfold eM;rw[cz b (U0 ω)];rfl))
   | ((conv=>whnf);refine CE (i+1) ⟨ω,bU d (O0 ω)⟩ ω ?_;(exact wB))
 obtain rfl:i=p.T.length:=ω
 repeat'(first|refine gE ?_|(conv=>whnf);first|with_reducible (first|refine Bf.D (λa=>?_) (λa=>?_)|refine Bf.NB (λa=>?_) (λa=>?_)|refine Bf.N (λa=>?_) (λa=>?_))|refine C8 (aO _ 0 31) ?_)
 all_goals exact X0 (λz=>[B z]) ((by unfold eM;rw[d];simp only[Bool.true_and];first|(symm;exact U0 ω)|exact decide_eq_decide.2 ω|(rw[Y4];simp;omega)))
def y9(j:cE)(a:cE.sml j):zzA 218 false [.val (some 5) (cE.enc .V j)] .one [B (jL j)]:=by
 have e:j.X.T.length<=1048576:=a;have b:=vd j.X a;cases c:eM j.X<;>rw[c]at b
 all_goals
  refine fO 20 [] Tryz.func218 rfl ?_
  repeat'(first|refine gP ?_|(conv=>whnf);first|with_reducible refine Bf.D (λd=>?_) (λd=>?_)|refine C8 b ?_|refine C8 (aJ _ 0 5) ?_|refine C8 (aJ _ 0 _) ?_)
  all_goals exact X0 (λz=>[B z]) ((by unfold jL;rw[c];first|rfl|(symm;exact U0 ω)|(rw[Y4];simp;omega)))
def GX(j:cE)(a:cE.sml j):zzA 84 false [.val (some 5) (cE.enc .V j)] .one [B (jL j)]:=by
 have e:j.X.T.length<=1048576:=a;have b:=ET j.X a;cases c:eM j.X<;>rw[c]at b
 all_goals
  refine fO 20 [] Tryz.func84 rfl ?_
  repeat'(first|refine gP ?_|(conv=>whnf);first|with_reducible refine Bf.D (λd=>?_) (λd=>?_)|refine C8 b ?_|refine C8 (aO _ 0 5) ?_|refine C8 (aO _ 0 _) ?_)
  all_goals exact X0 (λz=>[B z]) ((by unfold jL;rw[c];first|rfl|(symm;exact U0 ω)|(rw[Y4];simp;omega)))
theorem kR(l:aD)(k:Nat):lpgs l (k+1)=lpgs l k++[l.Q+(k:Nat)]:=by grind [List.range_succ,lpgs]
theorem F5(l:aD)(k:Nat):(lpgs l k).length=k:=by unfold lpgs;simp
theorem N8(l:aD)(h:k<=n):lpgs l k <+: lpgs l n:=by
 induction n with
 | zero=>
  grind
 | succ n a=>
  grind [kR]
variable{la:List aD}
theorem pB(sp:List aA){l:aD}(h:la[i]? = some l):pgs sp (la.take (i+1))=pgs sp (la.take i)++lpgs l l.a2.toNat:=by grind [V5,pgs]
theorem PN(sp:List aA)(la:List aD)(i:Nat):pgs sp (la.take i) <+: pgs sp la:=by grind [List.take_append_drop,pgs]
variable{p:Int}{S:List Int}
theorem LU{all:List Int}(h:(S++[p]) <+: all)(a:p∈S):decide all.Nodup=false:=by grind [List.nodup_append]
theorem lI(h:S.Nodup)(a:p∉S):(S++[p]).Nodup:=ψ
variable{sp:List aA}
theorem Gf(h:sp[i]? = some s):((sp.take i).map (·.Q)++[s.Q]) <+: pgs sp la:=by
 have a:(sp.take i).map (·.Q)++[s.Q]=(sp.take (i+1)).map (·.Q):=by grind [V5]
 rw[a];refine List.IsPrefix.trans ?_ (List.prefix_append ..)
 grind
theorem Be{l:aD}(h:la[i]? = some l)(a:k<l.a2.toNat):(pgs sp (la.take i)++lpgs l k++[l.Q+(k:Nat)]) <+: pgs sp la:=by
 refine List.IsPrefix.trans ?_ (PN sp la (i+1));rw[pB sp h,W5,<-kR]
 grind [List.prefix_append_right_inj,N8]
theorem qG(h:sp[i]? = some s)(a:bh s=false):bq sp la=false:=by grind [bq]
theorem oS{l:aD}(h:la[i]? = some l)(a:bN l=false):bq sp la=false:=by grind [bq]
theorem kJ(h:(S++[p]) <+: pgs sp la)(a:p∈S):bq sp la=false:=by grind [LU,bq]
theorem sR(h1:sp.all bh=true)(a:la.all bN=true)(b:(pgs sp la).Nodup):bq sp la=true:=by grind [bq]
theorem aS{l:aD}(h:bN l=true):1<=l.a2/\l.a2<=63/\0<=l.Q/\l.Q<=31:=by grind [bN]
theorem mj(sp:List aA)(la:List aD)(t:d9 sp)(u:dM la):zzA 210 false [.val none (cA .V sp),.val none (cy .V la)] .one [B (bq sp la)]:=by
 have J:=t.1;have K:=u.1;refine fO 79 [] Tryz.func210 rfl ?_
 repeat'(first|refine gP ?_|fail)
 (conv=>whnf)
 refine CJ (ι:=Nat × List Int) (λi=>[(0,.H .one (cA .V sp)),(1,.H .one (cy .V la)),(5,.H .one (aH .own i.2)),(6,.H .one [I ((i.1:Nat):Int)])]) (λi=>i.1<=sp.length/\i.2=(sp.take i.1).map (·.Q)/\(sp.take i.1).all bh=true/\i.2.Nodup) (λi=>sp.length - i.1) ((0,[])) ?_ ψ λi o=>?_
 ·exact wB
 obtain⟨i,S⟩:=i;obtain⟨o,q,d,h⟩:=o;simp only at o q d h |-;have L:S.length=i:=ψ
 by_cases w:i<sp.length
 ·have a:=au w
  have j:=gx (nth sp i);cases e:bh (nth sp i)<;>rw[e]at j
  ·repeat'(first|refine gE ?_|(conv=>whnf);first|with_reducible refine CD (aa a) ?_|refine C8 j ?_)
   exact X0 (λz=>[B z]) ((qG a e).symm)
  repeat'(first|refine gE ?_|(conv=>whnf);first|with_reducible (first|refine CD (aa a) ?_|refine Bf.D (λy=>?_) (λy=>?_))|refine C8 j ?_|refine CF (mQ S _ ω) ⟨⟨rfl,dR _⟩,⟨rfl,rfl⟩,trivial⟩ ?_|refine CU cI (λr E=>by rw[O1.1 E];rfl) (by simp[bi,eg]) (by simp;omega) (by simp only[C1];exact yJ (by simp;omega) (by decide)) rfl ?_)
  all_goals first
   | exact X0 (λz=>[B z]) ((kJ (S:=S) (by rw[q];exact Gf a) (by assumption)).symm)
   | ((conv=>whnf)
      refine CE (i+1,S++[(nth sp i).Q]) ⟨(by simp only;omega),(by simp only;rw[q,V5,a];simp),(cV a d e),lI h (by assumption)⟩ (by simp only;omega) ?_
      (repeat'(first|exact trivial|rfl|exact CL rfl (CL (X0 (C.s dQ.own) (by simp[rI])) trivial)|refine CL ?_ ?_)))
 obtain rfl:i=sp.length:=ω
 rw[C5]at d q
 repeat'(first|refine gE ?_|fail)
 (conv=>whnf)
 refine CJ (ι:=Nat × List Int) (λi=>[(1,.H .one (cy .V la)),(5,.H .one (aH .own i.2)),(7,.H .one [I ((i.1:Nat):Int)])]) (λi=>i.1<=la.length/\i.2=pgs sp (la.take i.1)/\(la.take i.1).all bN=true/\i.2.Nodup/\i.2.length<=1048576+64*i.1) (λi=>la.length - i.1) ((0,S)) ?_ (⟨W0 _,by grind [pgs],rfl,h,by simp only;omega⟩) λi o=>?_
 ·exact wB
 obtain⟨i,S2⟩:=i;obtain⟨F,l,b,g,G⟩:=o;simp only at F l b g G |-;by_cases w:i<la.length
 ·have a:=au w
  have j:=n9 (nth la i);cases e:bN (nth la i)<;>rw[e]at j
  ·repeat'(first|refine gE ?_|(conv=>whnf);first|with_reducible refine CD (aa a) ?_|refine C8 j ?_)
   exact X0 (λz=>[B z]) ((oS a e).symm)
  have M:=aS e
  repeat'(first|refine gE ?_|(conv=>whnf);first|with_reducible refine CD (aa a) ?_|refine C8 j ?_)
  (conv=>whnf)
  refine CJ (ι:=Nat × List Int) (λk=>[(1,.H .one (cy .V la)),(5,.H .one (aH .own k.2)),(7,.H .one [I ((i:Nat):Int)]),(8,.H .one [I ((k.1:Nat):Int)])]) (λk=>k.1<=(nth la i).a2.toNat/\k.2=S2++lpgs (nth la i) k.1/\k.2.Nodup) (λk=>(nth la i).a2.toNat - k.1) ((0,S2)) ?_ (⟨W0 _,by simp[lpgs],g⟩) λk H=>?_
  ·exact wB
  obtain⟨k,p⟩:=k;obtain⟨H,n,c⟩:=H;simp only at H n c |-;have N:p.length=S2.length+k:=by grind [F5]
  by_cases O:k<(nth la i).a2.toNat
  ·repeat'(first|refine gE ?_|(conv=>whnf);first|with_reducible (first|refine CD (aa a) ?_|refine Bf.D (λy=>?_) (λy=>?_))|refine CF (mQ p _ ω) ⟨⟨rfl,dR _⟩,⟨rfl,rfl⟩,trivial⟩ ?_|refine CU cI (λr E=>by rw[O1.1 E];rfl) (by simp[bi,eg]) (by simp;omega) (by show _*8<=_;simp;omega) rfl ?_)
   all_goals first
    | exact X0 (λz=>[B z]) ((kJ (S:=p) (by rw[n,l];exact Be a O) (by assumption)).symm)
    | ((conv=>whnf)
       refine CE (k+1,p++[(nth la i).Q+(k:Nat)]) ⟨(by simp only;omega),(by simp only;rw[n,kR,W5]),lI c (by assumption)⟩ (by simp only;omega) ?_
       (repeat'(first|exact trivial|rfl|exact CL rfl (CL (X0 (C.s dQ.own) (by simp[rI])) trivial)|refine CL ?_ ?_)))
  obtain rfl:k=(nth la i).a2.toNat:=ω
  repeat'(first|refine gE ?_|(conv=>whnf);first|with_reducible refine CD (aa a) ?_)
  ((conv=>whnf);refine CE (i+1,p) ⟨(by simp only;omega),(by grind [pB]),(cV a b e),c,(by simp only;omega)⟩ (by simp only;omega) ?_;(exact wB))
 obtain rfl:i=la.length:=ω
 rw[C5]at b l
 repeat'(first|refine gE ?_|fail)
 exact X0 (λz=>[B z]) ((sR d b ψ).symm)
def ins(S:List Int)(p:Int):List Int:=if p∈S then S else S++[p]
theorem JJ{p:Int} : ∀{S:List Int},p∈S->mput (fR S) p (.bool true)=fR S
 | x::S,h=>by
  simp only[fR,Z5,mput];by_cases a:x=p
  ·rw[CC a,a]
  rw[C9 a];have:=JJ (S:=S) ((List.mem_cons.1 h).resolve_left λe=>a e.symm)
  grind [fR]
theorem xa(S:List Int)(p:Int):fR (ins S p)=mput (fR S) p (.bool true):=by grind [JJ,uz,ins]
theorem Na(S:List Int)(p:Int):zzB 224 false [.val none [I p],.ptr [.m (fR S)]] [.val none [I p],.ptr [.m (fR (ins S p))]] .one [B (decide (p∉S))]:=by
 refine fM 12 [] [] [(0,0),(0,0)] Tryz.func224 rfl (λu q=>?_)
 repeat'(first|refine gP ?_|(conv=>whnf);first|refine Ml.mk (nk p S) ?_|refine Mu.mk (xa S p) ?_)
 refine CG rfl ?_ ?_
 ·grind
 exact wB
theorem q8(sp:List aA)(la:List aD)(t:d9 sp)(u:dM la):zzA 76 false [.val none (cA .V sp),.val none (cy .V la)] .one [B (bq sp la)]:=by
 have F:=t.1;have G:=u.1;refine fP 54 [(224,[0,2])] [] Tryz.func76 rfl ?_
 repeat'(first|refine gP ?_|fail)
 (conv=>whnf)
 refine CJ (ι:=Nat × List Int) (λi=>[(1,.H .one (cy .V la)),(5,.H .box [.m (fR i.2)]),(6,.fn 224 [5]),(14,.H .one (cA .V sp)),(15,.H .one [I (sp.length)]),(16,.H .one [I ((i.1:Nat):Int)])]) (λi=>i.1<=sp.length/\i.2=(sp.take i.1).map (·.Q)/\(sp.take i.1).all bh=true/\i.2.Nodup) (λi=>sp.length - i.1) ((0,[])) ?_ ψ λi p=>?_
 ·exact wB
 obtain⟨i,S⟩:=i;obtain⟨p,r,e,j⟩:=p;simp only at p r e j |-;by_cases w:i<sp.length
 ·have c:=au w
  have l:=jN (nth sp i);cases g:bh (nth sp i)<;>rw[g]at l
  ·repeat'(first|refine gE ?_|(conv=>whnf);first|with_reducible refine CD (aa c) ?_|refine C8 l ?_)
   exact X0 (λz=>[B z]) ((qG c g).symm)
  repeat'(first|refine gE ?_|(conv=>whnf);first|with_reducible (first|refine CD (aa c) ?_|refine Bf.D (λy=>?_) (λy=>?_))|refine C8 l ?_|refine CK (Na S _) (.inl rfl) ?_)
  all_goals first
   | exact X0 (λz=>[B z]) ((kJ (S:=S) (by rw[r];exact Gf c) ψ).symm)
   |(have a:(nth sp i).Q∉S:=by assumption
     (conv=>whnf)
     refine CE (i+1,ins S (nth sp i).Q) ⟨(by simp only;omega),(by simp only;unfold ins;rw[C9 a,r,V5,c];simp),(cV c e g),(by simp only;unfold ins;rw[C9 a];exact lI j a)⟩ (by simp only;omega) ?_
     (exact wA))
 obtain rfl:i=sp.length:=ω
 rw[C5]at e r
 repeat'(first|refine gE ?_|fail)
 (conv=>whnf)
 refine CJ (ι:=Nat × List Int) (λi=>[(5,.H .box [.m (fR i.2)]),(6,.fn 224 [5]),(31,.H .one (cy .V la)),(32,.H .one [I (la.length)]),(33,.H .one [I ((i.1:Nat):Int)])]) (λi=>i.1<=la.length/\i.2=pgs sp (la.take i.1)/\(la.take i.1).all bN=true/\i.2.Nodup) (λi=>la.length - i.1) ((0,S)) ?_ (⟨W0 _,by grind [pgs],rfl,j⟩) λi p=>?_
 ·exact wB
 obtain⟨i,S2⟩:=i;obtain⟨C,n,b,h⟩:=p;simp only at C n b h |-;by_cases w:i<la.length
 ·have c:=au w
  have l:=sq (nth la i);cases g:bN (nth la i)<;>rw[g]at l
  ·repeat'(first|refine gE ?_|(conv=>whnf);first|with_reducible refine CD (aa c) ?_|refine C8 l ?_)
   exact X0 (λz=>[B z]) ((oS c g).symm)
  have H:=aS g
  repeat'(first|refine gE ?_|(conv=>whnf);first|with_reducible refine CD (aa c) ?_|refine C8 l ?_)
  (conv=>whnf)
  refine CJ (ι:=Nat × List Int) (λk=>[(5,.H .box [.m (fR k.2)]),(6,.fn 224 [5]),(10,.H .box (aD.enc .V (nth la i))),(11,.H .one [I ((k.1:Nat):Int)]),(31,.H .one (cy .V la)),(32,.H .one [I (la.length)]),(33,.H .one [I ((i:Nat):Int)])]) (λk=>k.1<=(nth la i).a2.toNat/\k.2=S2++lpgs (nth la i) k.1/\k.2.Nodup) (λk=>(nth la i).a2.toNat - k.1) ((0,S2)) ?_ (⟨W0 _,by simp[lpgs],h⟩) λk E=>?_
  ·exact wB
  obtain⟨k,q⟩:=k;obtain⟨E,o,d⟩:=E;simp only at E o d |-;by_cases J:k<(nth la i).a2.toNat
  ·repeat'(first|refine gE ?_|(conv=>whnf);first|with_reducible refine Bf.D (λy=>?_) (λy=>?_)|refine CK (Na q _) (.inl rfl) ?_)
   all_goals first
    | exact X0 (λz=>[B z]) ((kJ (S:=q) (by rw[o,n];exact Be c J) ψ).symm)
    |(have a:(nth la i).Q+(k:Nat)∉q:=by assumption
      (conv=>whnf)
      refine CE (k+1,ins q ((nth la i).Q+(k:Nat))) ⟨(by simp only;omega),(by simp only;unfold ins;rw[C9 a,o,kR,W5]),(by simp only;unfold ins;rw[C9 a];exact lI d a)⟩ (by simp only;omega) ?_
      (exact wA))
  obtain rfl:k=(nth la i).a2.toNat:=ω
  repeat'(first|refine gE ?_|fail)
  ((conv=>whnf);refine CE (i+1,q) ⟨(by simp only;omega),(by grind [pB]),(cV c b g),d⟩ (by simp only;omega) ?_;(exact wB))
 obtain rfl:i=la.length:=ω
 rw[C5]at b n
 repeat'(first|refine gE ?_|fail)
 exact X0 (λz=>[B z]) ((sR e b ψ).symm)
theorem aI(h:bh s=true):0<=s.Q/\s.Q<=31/\0<=s.d/\s.d<=3:=by grind [bh]
theorem bZ{k:Int}(h:0<=k/\k<=3):csz k=1\/csz k=2\/csz k=4\/csz k=8:=by
 obtain rfl|rfl|rfl|rfl:k=0\/k=1\/k=2\/k=3:=ω
 all_goals decide
def pu{x y:Int}(h:0<=x):x.tdiv y=x / y:=Int.tdiv_eq_ediv_of_nonneg h
def fh{x y:Int}(h:0<=x):x.tmod y=x % y:=Int.tmod_eq_emod_of_nonneg h
def S2(p:Int × Int):List C:=[I p.1,I p.2]
variable{b:Int}
theorem Az{p:Int × Int}(h:(a,b)=p):[I a,I b]=S2 p:=by subst h;rfl
theorem vi(s:aA)(a:Int)(k:ng a):zzA 473 false [.val (some 3) (aA.enc .V s),.val none [I a]] (.tup [none,none]) (S2 (iR s a)):=by
 have c:=gx s;have l:=ef s.d;obtain⟨n,o⟩:=k;cases d:bh s<;>rw[d]at c
 ·refine fO 33 [(4,12,[23,24,25,26,27,28,29,30,31,32,4,5])] Tryz.func473 rfl ?_ (.inr ⟨trivial,trivial,trivial⟩)
  repeat'(first|refine gP ?_|(conv=>whnf);first|refine C8 c ?_)
  exact Az (by grind [iR,d5])
 have h:=aI d;have i:=bZ ⟨h.2.2.1,h.2.2.2⟩;by_cases g:16*s.Q<=a/\a<=16*s.Q+15
 ·have j:0<=a:=ω
  refine fO 33 [(4,12,[23,24,25,26,27,28,29,30,31,32,4,5])] Tryz.func473 rfl ?_ (.inr ⟨trivial,trivial,trivial⟩)
  repeat'(first|refine gE ?_|(conv=>whnf);first|with_reducible refine Bf.N (λb=>?_) (λb=>?_)|refine C8 c ?_|refine C8 l ?_|refine CO (by decide) ?_|refine CO ω ?_|refine CM ((X0 _ (pu j)).trans (fQ ω ω)) ?_|refine CS (fh j) ?_|refine CM ((X0 _ (pu ω)).trans (fQ (by rcases i with e|e|e|e<;>rw[e]<;>omega) (by rcases i with e|e|e|e<;>rw[e]<;>omega))) ?_|refine CS (fh ω) ?_)
  all_goals grind [Az,iR,d5]
 refine fO 33 [(4,12,[23,24,25,26,27,28,29,30,31,32,4,5])] Tryz.func473 rfl ?_ (.inr ⟨trivial,trivial,trivial⟩)
 repeat'(first|refine gP ?_|(conv=>whnf);first|with_reducible (first|refine Bf.D (λb=>?_) (λb=>?_)|refine Bf.N (λb=>?_) (λb=>?_))|refine C8 c ?_|refine CO (by decide) ?_|refine CM ((X0 _ (pu ω)).trans (fQ ω ω)) ?_)
 all_goals first
  |exact Az (by unfold iR d5;rw[d,U0 g];rfl)
  |(exfalso;omega)
theorem FK(s:aA)(a:Int):zzA 379 false [.val (some 3) (aA.enc .V s),.val none [I a]] (.tup [none,none]) (S2 (iR s a)):=by
 have b:=jN s;have j:=f9 s.d;cases c:bh s<;>rw[c]at b
 ·refine fO 38 [(4,12,[28,29,30,31,32,33,34,35,36,37,4,5])] Tryz.func379 rfl ?_ (.inr ⟨trivial,trivial,trivial⟩)
  repeat'(first|refine gP ?_|(conv=>whnf);first|refine C8 b ?_)
  exact Az (by grind [iR,d5])
 have h:=aI c;have i:=bZ ⟨h.2.2.1,h.2.2.2⟩;by_cases d:16*s.Q<=a/\a<=16*s.Q+15
 ·refine fO 38 [(4,12,[28,29,30,31,32,33,34,35,36,37,4,5])] Tryz.func379 rfl ?_ (.inr ⟨trivial,trivial,trivial⟩)
  repeat'(first|refine gE ?_|(conv=>whnf);first|with_reducible refine Bf.D (λg=>?_) (λg=>?_)|refine C8 b ?_|refine C8 j ?_|refine C8 (aO _ _ _) ?_|refine CO ω ?_|refine CM ((X0 _ (pu ω)).trans (fQ (by rcases i with e|e|e|e<;>rw[e]<;>omega) (by rcases i with e|e|e|e<;>rw[e]<;>omega))) ?_|refine CS (fh ω) ?_)
  grind [Az,iR,d5]
 refine fO 38 [(4,12,[28,29,30,31,32,33,34,35,36,37,4,5])] Tryz.func379 rfl ?_ (.inr ⟨trivial,trivial,trivial⟩)
 repeat'(first|refine gE ?_|(conv=>whnf);first|with_reducible refine Bf.D (λg=>?_) (λg=>?_)|refine C8 b ?_|refine C8 (aO _ _ _) ?_)
 all_goals exact Az (by unfold iR d5;rw[c,U0 d];rfl)
def qd(b i:Int):zzA 547 false [.val none [I b],.val none [I i]] .one [B (decide (0<=b/\0<=i/\i<=15))]:=by
 refine fO 11 [] Tryz.func547 rfl ?_
 repeat'(first|refine gP ?_|(conv=>whnf);first|with_reducible refine Bf.D (λa=>?_) (λa=>?_)|refine C8 (aJ _ 0 15) ?_)
 all_goals exact X0 (λz=>[B z]) ((by first|(symm;exact U0 ω)|exact decide_eq_decide.2 ω))
def tG(b i:Int):zzA 457 false [.val none [I b],.val none [I i]] .one [B (decide (0<=b/\0<=i/\i<=15))]:=by
 refine fO 11 [] Tryz.func457 rfl ?_
 repeat'(first|refine gP ?_|(conv=>whnf);first|with_reducible refine Bf.D (λa=>?_) (λa=>?_)|refine C8 (aO _ 0 15) ?_)
 all_goals exact X0 (λz=>[B z]) ((by first|(symm;exact U0 ω)|exact decide_eq_decide.2 ω))
theorem LY{i:Int}(a:0<=b/\b<=9223372036854775807)(e:0<=i/\i<=15):b.fdiv (2 ^ min i.toNat IntKind.i64.bits)=b / 2 ^ i.toNat/\0<=b / 2 ^ i.toNat/\b / 2 ^ i.toNat<=9223372036854775807:=by
 have d:min i.toNat IntKind.i64.bits=i.toNat:=Nat.min_eq_left (show i.toNat<=64 by omega);rw[d];have c:(0:Int)<=2 ^ i.toNat:=ψ
 refine⟨Int.fdiv_eq_ediv_of_nonneg _ c,Int.ediv_nonneg a.1 c,?_⟩;have:=Int.ediv_le_self (2 ^ i.toNat:Int) a.1;omega
theorem xt{i:Int}(a:0<=b)(c:0<=i/\i<=15):((((b / 2 ^ i.toNat).toNat &&& (1:Int).toNat:Nat):Int) == 1)=aZ b i:=by
 have d:(0:Int)<=b / 2 ^ i.toNat:=Int.ediv_nonneg a ψ
 grind [aZ]
theorem iP(b i:Int)(c:b<=9223372036854775807):zzA 474 false [.val none [I b],.val none [I i]] .one [B (aZ b i)]:=by
 by_cases h:0<=b/\0<=i/\i<=15
 ·obtain⟨d,g⟩:=LY (b:=b) (i:=i) ⟨h.1,c⟩ h.2
  have j:IntKind.u64.wrap i=i:=by grind [Go.IntKind.wrap,Go.IntKind.bits]
  refine fO 16 [] Tryz.func474 rfl ?_
  repeat'(first|refine gE ?_|(conv=>whnf);first|with_reducible refine Bf.D (λa=>?_) (λa=>?_)|refine C8 (qd _ _) ?_|refine CO ω ?_|refine CM j ?_|refine CS d ?_|refine CM (and64 g ⟨by decide,by decide⟩) ?_)
  grind [xt]
 refine fO 16 [] Tryz.func474 rfl ?_
 repeat'(first|refine gE ?_|(conv=>whnf);first|with_reducible refine Bf.D (λa=>?_) (λa=>?_)|refine C8 (qd _ _) ?_)
 all_goals exact X0 (λz=>[B z]) ((by unfold aZ;symm;exact U0 λe=>h ⟨e.1,e.2.1,e.2.2.1⟩))
theorem nC(b i:Int)(c:b<=9223372036854775807):zzA 380 false [.val none [I b],.val none [I i]] .one [B (aZ b i)]:=by
 by_cases h:0<=b/\0<=i/\i<=15
 ·obtain⟨d,g⟩:=LY (b:=b) (i:=i) ⟨h.1,c⟩ h.2
  refine fO 15 [] Tryz.func380 rfl ?_
  repeat'(first|refine gE ?_|(conv=>whnf);first|with_reducible refine Bf.D (λa=>?_) (λa=>?_)|refine C8 (tG _ _) ?_|refine CO ω ?_|refine CS d ?_|refine CM (and64 g ⟨by decide,by decide⟩) ?_)
  grind [xt]
 refine fO 15 [] Tryz.func380 rfl ?_
 repeat'(first|refine gE ?_|(conv=>whnf);first|with_reducible refine Bf.D (λa=>?_) (λa=>?_)|refine C8 (tG _ _) ?_)
 all_goals exact X0 (λz=>[B z]) ((by unfold aZ;symm;exact U0 λe=>h ⟨e.1,e.2.1,e.2.2.1⟩))
theorem cT{l:aD}(h:bN l=true):9<=l.q/\l.q<=1000/\0<=l.Q/\l.Q<=31:=by grind [bN]
theorem qE(l:aD)(a:Int):zzA 475 false [.val (some 3) (aD.enc .V l),.val none [I a]] .one [B (bO l a)]:=by
 have b:=n9 l;cases c:bN l<;>rw[c]at b
 ·refine fO 24 [] Tryz.func475 rfl ?_
  repeat'(first|refine gP ?_|(conv=>whnf);first|refine C8 b ?_)
  exact X0 (λz=>[B z]) ((by grind [bO]))
 have e:=cT c;refine fO 24 [] Tryz.func475 rfl ?_
 repeat'(first|refine gP ?_|(conv=>whnf);first|with_reducible refine Bf.D (λd=>?_) (λd=>?_)|refine C8 b ?_)
 all_goals exact X0 (λz=>[B z]) ((by unfold bO;rw[c,Bool.true_and];first|(symm;exact U0 ω)|exact decide_eq_decide.2 ω))
theorem qQ(l:aD)(a:Int):zzA 381 false [.val (some 3) (aD.enc .V l),.val none [I a]] .one [B (bO l a)]:=by
 have b:=sq l;cases c:bN l<;>rw[c]at b
 ·refine fO 21 [] Tryz.func381 rfl ?_
  repeat'(first|refine gP ?_|(conv=>whnf);first|refine C8 b ?_)
  exact X0 (λz=>[B z]) ((by grind [bO]))
 have e:=cT c;refine fO 21 [] Tryz.func381 rfl ?_
 repeat'(first|refine gP ?_|(conv=>whnf);first|with_reducible refine Bf.D (λd=>?_) (λd=>?_)|refine C8 b ?_|refine C8 (aO _ _ _) ?_)
 grind [bO]
theorem tC(l:aD)(a:Int)(h:bO l a=true):zzA 476 false [.val (some 3) (aD.enc .V l),.val none [I a]] .one [I (a - 16*l.Q)]:=by
 have b:=qE l a;rw[h]at b;unfold bO at h;simp only[I0,C0]at h;have c:=cT h.1;refine fO 14 [] Tryz.func476 rfl ?_
 repeat'(first|refine gP ?_|(conv=>whnf);first|refine C8 b ?_)
 grind
theorem u5(l:aD)(a:Int)(h:bO l a=true):zzA 382 false [.val (some 3) (aD.enc .V l),.val none [I a]] .one [I (a - 16*l.Q)]:=by
 have b:=qQ l a;rw[h]at b;unfold bO at h;simp only[I0,C0]at h;have c:=cT h.1;refine fO 14 [] Tryz.func382 rfl ?_
 repeat'(first|refine gP ?_|(conv=>whnf);first|refine C8 b ?_)
 grind
variable{m:aN}
theorem pQ(a:i<m.U.length)(h:gN m i=false):bQ m=false:=by grind [cz,bQ]
theorem ww(h:¬(1<=m.U.length/\m.U.length<=4/\m.y.length=m.U.length)):bQ m=false:=by grind [bQ]
theorem xQ(h1:1<=m.U.length/\m.U.length<=4/\m.y.length=m.U.length)(a:dd m.U.length (gN m)=true):bQ m=decide (bA m m.U.length<=30):=by grind [bQ]
theorem lY(m:aN)(h:aN.sml m):zzA 111 false [.val (some 2) (aN.enc .V m)] .one [B (bQ m)]:=by
 have r:m.U.length<=1048576:=h.1.1;have t:m.y.length<=1048576:=h.2.1;by_cases u:1<=m.U.length/\m.U.length<=4/\m.y.length=m.U.length
 ·refine fO 92 [(19,15,[75,76,77,78,79,80,81,82,83,84,85,86,87,88,89])] Tryz.func111 rfl ?_
  repeat'(first|refine gB ?_|(conv=>whnf);first|with_reducible (first|refine Bf.D (λa=>?_) (λa=>?_)|refine Bf.N (λa=>?_) (λa=>?_))|refine C8 (aJ _ 1 4) ?_)
  (conv=>whnf)
  refine CJ (ι:=Nat) (λi=>[(1,.H .box (aN.enc .V m)),(3,.H .one [I (m.U.length)]),(4,.H .one [I (bA m i)]),(5,.H .one [I ((i:Nat):Int)])]) (λi=>i<=m.U.length/\dd i (gN m)=true/\0<=bA m i/\bA m i<=2097152*i) (λi=>m.U.length - i) (0) ?_ (⟨W0 _,rfl,by simp[bA],by simp[bA]⟩) λi n=>?_
  ·exact wB
  obtain⟨n,w,F,G⟩:=n;by_cases j:i<m.U.length
  ·have l:=au j
   have o:=au (xs:=m.y) (i:=i) ω;have y:(nth m.U i).length<=1048576:=(h.1.2 _ (ar j)).1;have C:(nth m.y i).length<=1048576:=h.2.2 _ ψ
   repeat'(first|refine gE ?_|fail)
   (conv=>whnf)
   refine CJ (ι:=Nat) (λk=>[(1,.H .box (aN.enc .V m)),(3,.H .one [I (m.U.length)]),(4,.H .one [I (bA m i)]),(5,.H .one [I ((i:Nat):Int)]),(6,.H .one [I ((k:Nat):Int)])]) (λk=>k<=(nth m.U i).length/\((nth m.U i).take k).all (ny m.U.length)=true) (λk=>(nth m.U i).length - k) (0) ?_ ψ λk p=>?_
   ·exact wB
   obtain⟨p,q⟩:=p;by_cases E:k<(nth m.U i).length
   ·have c:=au E
    repeat'(first|refine gE ?_|(conv=>whnf);first|with_reducible (first|refine CD (aa l) ?_|refine CD (aa c) ?_|refine Bf.D (λa=>?_) (λa=>?_))|refine C8 (aJ _ 0 _) ?_)
    all_goals first
     | exact X0 (λz=>[B z]) ((pQ j (by unfold gN;rw[gI c (by unfold ny;exact U0 ω)];rfl)).symm)
     | ((conv=>whnf);refine CE (k+1) ⟨ω,cV c q (by unfold ny;exact O0 ω)⟩ ω ?_;(exact wB))
   have H:=ns ω q
   repeat'(first|refine gE ?_|(conv=>whnf);first|with_reducible refine CD (aa l) ?_)
   (conv=>whnf)
   refine CJ (ι:=Nat) (λb=>[(1,.H .box (aN.enc .V m)),(3,.H .one [I (m.U.length)]),(4,.H .one [I (bA m i)]),(5,.H .one [I ((i:Nat):Int)]),(8,.H .one [I ((b:Nat):Int)])]) (λb=>b<=(nth m.y i).length/\((nth m.y i).take b).all PC=true) (λb=>(nth m.y i).length - b) (0) ?_ ψ λb e=>?_
   ·exact wB
   obtain⟨e,ak2⟩:=e;by_cases lk2:b<(nth m.y i).length
   ·have c:=au lk2
    repeat'(first|refine gE ?_|(conv=>whnf);first|with_reducible (first|refine CD (aa o) ?_|refine CD (aa c) ?_|refine Bf.D (λa=>?_) (λa=>?_)))
    all_goals first
     | exact X0 (λz=>[B z]) ((pQ j (by unfold gN;rw[gI c (by unfold PC;exact U0 ω)];simp)).symm)
     | ((conv=>whnf);refine CE (b+1) ⟨ω,cV c ak2 (by unfold PC;exact O0 ω)⟩ ω ?_;(exact wB))
   have ae2:=ns ω ak2;have g:bA m (i+1)=bA m i+((nth m.U i).length+(nth m.y i).length):=rfl;have d:bA m (i+1)=bA m i+(nth m.U i).length+(nth m.y i).length:=by rw[g];omega
   repeat'(first|refine gE ?_|(conv=>whnf);first|with_reducible (first|refine CD (aa l) ?_|refine CD (aa o) ?_))
   ((conv=>whnf);refine CE (i+1) ⟨ω,bU w (by grind [gN]),ω,ω⟩ ω ?_)
   rw[d];exact wB
  obtain rfl:i=m.U.length:=ω
  repeat'(first|refine gE ?_|fail)
  grind [xQ]
 refine fO 92 [(19,15,[75,76,77,78,79,80,81,82,83,84,85,86,87,88,89])] Tryz.func111 rfl ?_
 repeat'(first|refine gP ?_|(conv=>whnf);first|with_reducible (first|refine Bf.D (λa=>?_) (λa=>?_)|refine Bf.N (λa=>?_) (λa=>?_))|refine C8 (aJ _ 1 4) ?_)
 all_goals first
  | exact X0 (λz=>[B z]) ((ww u).symm)
  |(exfalso;omega)
theorem vq(m:aN)(g:aN.sml m):zzA 78 false [.val (some 2) (aN.enc .V m)] .one [B (bQ m)]:=by
 have q:m.U.length<=1048576:=g.1.1;have r:m.y.length<=1048576:=g.2.1;by_cases t:1<=m.U.length/\m.U.length<=4/\m.y.length=m.U.length
 ·refine fO 82 [(20,15,[64,65,66,67,68,69,70,71,72,73,74,75,76,77,78])] Tryz.func78 rfl ?_
  repeat'(first|refine gB ?_|(conv=>whnf);first|with_reducible (first|refine Bf.D (λa=>?_) (λa=>?_)|refine Bf.N (λa=>?_) (λa=>?_))|refine C8 (aO _ 1 4) ?_)
  (conv=>whnf)
  refine CJ (ι:=Nat) (λi=>[(1,.H .box (aN.enc .V m)),(3,.H .one [I (m.U.length)]),(4,.H .one [I (bA m i)]),(25,.H .one [I (m.U.length)]),(26,.H .one [I ((i:Nat):Int)])]) (λi=>i<=m.U.length/\dd i (gN m)=true/\0<=bA m i/\bA m i<=2097152*i) (λi=>m.U.length - i) (0) ?_ (⟨W0 _,rfl,by simp[bA],by simp[bA]⟩) λi n=>?_
  ·exact wB
  obtain⟨n,u,E,F⟩:=n;by_cases h:i<m.U.length
  ·have j:=au h
   have l:=au (xs:=m.y) (i:=i) ω;have w:(nth m.U i).length<=1048576:=(g.1.2 _ (ar h)).1;have y:(nth m.y i).length<=1048576:=g.2.2 _ ψ
   repeat'(first|refine gE ?_|(conv=>whnf);first|with_reducible refine CD (aa j) ?_)
   (conv=>whnf)
   refine CJ (ι:=Nat) (λk=>[(1,.H .box (aN.enc .V m)),(3,.H .one [I (m.U.length)]),(4,.H .one [I (bA m i)]),(5,.H .one [I ((i:Nat):Int)]),(25,.H .one [I (m.U.length)]),(26,.H .one [I ((i:Nat):Int)]),(33,.H .one (cF .V (nth m.U i))),(34,.H .one [I ((nth m.U i).length)]),(35,.H .one [I ((k:Nat):Int)])]) (λk=>k<=(nth m.U i).length/\((nth m.U i).take k).all (ny m.U.length)=true) (λk=>(nth m.U i).length - k) (0) ?_ ψ λk o=>?_
   ·exact wB
   obtain⟨o,p⟩:=o;by_cases C:k<(nth m.U i).length
   ·have c:=au C
    repeat'(first|refine gE ?_|(conv=>whnf);first|with_reducible (first|refine CD (aa j) ?_|refine CD (aa c) ?_|refine Bf.D (λa=>?_) (λa=>?_))|refine C8 (aO _ 0 _) ?_)
    all_goals first
     | exact X0 (λz=>[B z]) ((pQ h (by unfold gN;rw[gI c (by unfold ny;exact U0 ω)];rfl)).symm)
     | ((conv=>whnf);refine CE (k+1) ⟨ω,cV c p (by unfold ny;exact O0 ω)⟩ ω ?_;(exact wB))
   have G:=ns ω p
   repeat'(first|refine gE ?_|(conv=>whnf);first|with_reducible (first|refine CD (aa j) ?_|refine CD (aa l) ?_))
   (conv=>whnf)
   refine CJ (ι:=Nat) (λb=>[(1,.H .box (aN.enc .V m)),(3,.H .one [I (m.U.length)]),(4,.H .one [I (bA m i)]),(5,.H .one [I ((i:Nat):Int)]),(25,.H .one [I (m.U.length)]),(26,.H .one [I ((i:Nat):Int)]),(55,.H .one (aH .V (nth m.y i))),(56,.H .one [I ((nth m.y i).length)]),(57,.H .one [I ((b:Nat):Int)])]) (λb=>b<=(nth m.y i).length/\((nth m.y i).take b).all PC=true) (λb=>(nth m.y i).length - b) (0) ?_ ψ λb d=>?_
   ·exact wB
   obtain⟨d,ak2⟩:=d;by_cases lk2:b<(nth m.y i).length
   ·have c:=au lk2
    repeat'(first|refine gE ?_|(conv=>whnf);first|with_reducible (first|refine CD (aa l) ?_|refine CD (aa c) ?_|refine Bf.D (λa=>?_) (λa=>?_)))
    all_goals first
     | exact X0 (λz=>[B z]) ((pQ h (by unfold gN;rw[gI c (by unfold PC;exact U0 ω)];simp)).symm)
     | ((conv=>whnf);refine CE (b+1) ⟨ω,cV c ak2 (by unfold PC;exact O0 ω)⟩ ω ?_;(exact wB))
   have ae2:=ns ω ak2;have e:bA m (i+1)=bA m i+((nth m.U i).length+(nth m.y i).length):=rfl
   repeat'(first|refine gE ?_|(conv=>whnf);first|with_reducible (first|refine CD (aa j) ?_|refine CD (aa l) ?_))
   ((conv=>whnf);refine CE (i+1) ⟨ω,bU u (by grind [gN]),ω,ω⟩ ω ?_)
   rw[e];exact wB
  obtain rfl:i=m.U.length:=ω
  repeat'(first|refine gE ?_|fail)
  grind [xQ]
 refine fO 82 [(20,15,[64,65,66,67,68,69,70,71,72,73,74,75,76,77,78])] Tryz.func78 rfl ?_
 repeat'(first|refine gP ?_|(conv=>whnf);first|with_reducible (first|refine Bf.D (λa=>?_) (λa=>?_)|refine Bf.N (λa=>?_) (λa=>?_))|refine C8 (aO _ 1 4) ?_)
 all_goals first
  | exact X0 (λz=>[B z]) ((ww t).symm)
  |(exfalso;omega)
def Aq(h:d5 s a=false):S2 (iR s a)=[I (-1),I (-1)]:=by
 unfold iR;rw[h];rfl
def yu(h:d5 s a=true):S2 (iR s a)=[I ((a - 16*s.Q) / csz s.d),I ((a - 16*s.Q) % csz s.d)]:=by
 unfold iR;rw[h];rfl
theorem rS(h:d5 s a=true):bh s=true/\0<=(a - 16*s.Q) / csz s.d/\(a - 16*s.Q) / csz s.d<=15:=by
 unfold d5 at h;simp only[I0,C0]at h;have b:=aI h.1
 grind [bZ]
def nE(b:i<sp.length)(h:d5 (nth sp i) a=true)(c:∀(j:Nat)(z:aA),j<i->sp[j]? = some z->d5 z a=false):denotes sp la a=qp i (nth sp i) a:=by
 unfold denotes;rw[wa (pr:=(d5 · a)) (au b) h c]
def mt(b:sp.length<=n)(c:∀(j:Nat)(z:aA),j<n->sp[j]? = some z->d5 z a=false)(d:i<la.length)(h:bO (nth la i) a=true)(e:∀(j:Nat)(z:aD),j<i->la[j]? = some z->bO z a=false) :
  denotes sp la a = ⟨3,i,0,a - 16*(nth la i).Q⟩:=by
 unfold denotes;rw[Da (pr:=(d5 · a)) b c,wa (pr:=(bO · a)) (au d) h e]
theorem wT(b:sp.length<=n)(c:∀(j:Nat)(z:aA),j<n->sp[j]? = some z->d5 z a=false)(d:la.length<=k)(e:∀(j:Nat)(z:aD),j<k->la[j]? = some z->bO z a=false):denotes sp la a = ⟨0,0,0,0⟩:=by grind [Da,denotes]
theorem nK(sp:List aA)(la:List aD)(a:Int)(d:d9 sp)(e:dM la)(g:bq sp la=true)(C:ng a):zzA 362 false [.val none (cA .V sp),.val none (cy .V la),.val none [I a]] .agg (j8.enc .own (denotes sp la a)):=by
 have E:=d.1;have F:=e.1;have p:=mj sp la d e;rw[g]at p;refine fO 67 [] Tryz.func362 rfl ?_ (.inr (j8.enc_fr _))
 repeat'(first|refine gP ?_|(conv=>whnf);first|refine C8 p ?_)
 (conv=>whnf)
 refine CJ (ι:=Nat) (λi=>[(0,.H .one (cA .V sp)),(1,.H .one (cy .V la)),(2,.H .one [I (a)]),(6,.H .box ([I 0,I 0,I 0,I 0])),(7,.H .one [I ((i:Nat):Int)])]) (λi=>i<=sp.length/\∀(j:Nat)(z:aA),j<i->sp[j]? = some z->d5 z a=false) (λi=>sp.length - i) (0) ?_ ψ λi q=>?_
 ·exact wB
 obtain⟨q,l⟩:=q;by_cases r:i<sp.length
 ·have h:=au r
  have b:=vi (nth sp i) a C;cases c:d5 (nth sp i) a with
  | false=>
   rw[Aq c]at b
   repeat'(first|refine gE ?_|(conv=>whnf);first|with_reducible (first|refine CD (aa h) ?_|refine Bf.D (λo=>?_) (λo=>?_))|refine C8 b ?_)
   ((conv=>whnf);refine CE (i+1) ψ ω ?_;(exact wB))
  | true=>
   rw[yu c]at b;obtain⟨G,H,J⟩:=rS c;have t:=iP (nth sp i).a9 ((a - 16*(nth sp i).Q) / csz (nth sp i).d) (fN G).2;cases u:aZ (nth sp i).a9 ((a - 16*(nth sp i).Q) / csz (nth sp i).d)<;>rw[u]at t
   all_goals
    repeat'(first|refine gE ?_|(conv=>whnf);first|with_reducible (first|refine CD (aa h) ?_|refine Bf.D (λo=>?_) (λo=>?_))|refine C8 b ?_|refine C8 t ?_)
    all_goals(rw[nE r c l];unfold qp;rw[u];rfl)
 repeat'(first|refine gE ?_|fail)
 (conv=>whnf)
 refine CJ (ι:=Nat) (λk=>[(1,.H .one (cy .V la)),(2,.H .one [I (a)]),(6,.H .box ([I 0,I 0,I 0,I 0])),(11,.H .one [I ((k:Nat):Int)])]) (λk=>k<=la.length/\∀(j:Nat)(z:aD),j<k->la[j]? = some z->bO z a=false) (λk=>la.length - k) (0) ?_ ψ λk w=>?_
 ·exact wB
 obtain⟨w,y⟩:=w;by_cases B:k<la.length
 ·have h:=au B
  have b:=qE (nth la k) a;cases c:bO (nth la k) a<;>rw[c]at b
  ·repeat'(first|refine gE ?_|(conv=>whnf);first|with_reducible refine CD (aa h) ?_|refine C8 b ?_)
   ((conv=>whnf);refine CE (k+1) ψ ω ?_;(exact wB))
  repeat'(first|refine gE ?_|(conv=>whnf);first|with_reducible refine CD (aa h) ?_|refine C8 b ?_|refine C8 (tC (nth la k) a c) ?_)
  rw[mt (n:=i) ω l B c y];rfl
 repeat'(first|refine gE ?_|fail)
 rw[wT (n:=i) (k:=k) ω l ω y];rfl
theorem th(sp:List aA)(la:List aD)(a:Int)(e:d9 sp)(g:dM la):zzA 235 false [.val none (cA .V sp),.val none (cy .V la),.val none [I a]] .agg (j8.enc .own (denotes sp la a)):=by
 have y:=e.1;have B:=g.1;refine fO 56 [] Tryz.func235 rfl ?_ (.inr (j8.enc_fr _))
 repeat'(first|refine gP ?_|fail)
 (conv=>whnf)
 refine CJ (ι:=Nat) (λi=>[(1,.H .one (cy .V la)),(2,.H .one [I (a)]),(6,.H .box ([I 0,I 0,I 0,I 0])),(14,.H .one (cA .V sp)),(15,.H .one [I (sp.length)]),(16,.H .one [I ((i:Nat):Int)])]) (λi=>i<=sp.length/\∀(j:Nat)(z:aA),j<i->sp[j]? = some z->d5 z a=false) (λi=>sp.length - i) (0) ?_ ψ λi o=>?_
 ·exact wB
 obtain⟨o,h⟩:=o;by_cases p:i<sp.length
 ·have d:=au p
  have b:=FK (nth sp i) a;cases c:d5 (nth sp i) a with
  | false=>
   rw[Aq c]at b
   repeat'(first|refine gE ?_|(conv=>whnf);first|with_reducible (first|refine CD (aa d) ?_|refine Bf.D (λl=>?_) (λl=>?_))|refine C8 b ?_)
   ((conv=>whnf);refine CE (i+1) ψ ω ?_;(exact wB))
  | true=>
   rw[yu c]at b;obtain⟨C,E,F⟩:=rS c;have q:=nC (nth sp i).a9 ((a - 16*(nth sp i).Q) / csz (nth sp i).d) (fN C).2;cases r:aZ (nth sp i).a9 ((a - 16*(nth sp i).Q) / csz (nth sp i).d)<;>rw[r]at q
   all_goals
    repeat'(first|refine gE ?_|(conv=>whnf);first|with_reducible (first|refine CD (aa d) ?_|refine Bf.D (λl=>?_) (λl=>?_))|refine C8 b ?_|refine C8 q ?_)
    all_goals(rw[nE p c h];unfold qp;rw[r];rfl)
 repeat'(first|refine gE ?_|fail)
 (conv=>whnf)
 refine CJ (ι:=Nat) (λk=>[(2,.H .one [I (a)]),(6,.H .box ([I 0,I 0,I 0,I 0])),(39,.H .one (cy .V la)),(40,.H .one [I (la.length)]),(41,.H .one [I ((k:Nat):Int)])]) (λk=>k<=la.length/\∀(j:Nat)(z:aD),j<k->la[j]? = some z->bO z a=false) (λk=>la.length - k) (0) ?_ ψ λk t=>?_
 ·exact wB
 obtain⟨t,u⟩:=t;by_cases w:k<la.length
 ·have d:=au w
  have b:=qQ (nth la k) a;cases c:bO (nth la k) a<;>rw[c]at b
  ·repeat'(first|refine gE ?_|(conv=>whnf);first|with_reducible refine CD (aa d) ?_|refine C8 b ?_)
   ((conv=>whnf);refine CE (k+1) ψ ω ?_;(exact wB))
  repeat'(first|refine gE ?_|(conv=>whnf);first|with_reducible refine CD (aa d) ?_|refine C8 b ?_|refine C8 (u5 (nth la k) a c) ?_)
  rw[mt (n:=i) ω h w c u];rfl
 repeat'(first|refine gE ?_|fail)
 rw[wT (n:=i) (k:=k) ω h ω u];rfl
section
variable{α:Type}
def Gu(ag:Option Nat)(e:α->List C)(pr:α->Bool)(xs:List α):List (Option Nat × List C)->Kd->List C->Prop:=λL k rcs=>∃x,x∈xs/\L=[(ag,e x)]/\k=.one/\rcs=[B (pr x)]
end
def vP(xs:List aB)(pr:aB->Bool)(n:xs.length<=9223372036854775807):zzA 487 false [.val none (bv .V xs),.fn (ro Tryz.prog (Gu (some 2) (aB.enc .V) pr xs))] .one [I (cW pr xs)]:=by
 refine fO 19 [] Tryz.func487 rfl ?_
 repeat'(first|refine gP ?_|fail)
 (conv=>whnf)
 refine CJ (ι:=Nat) (λi=>[(0,.H .one (bv .V xs)),(1,.fv (ro Tryz.prog (Gu (some 2) (aB.enc .V) pr xs))),(7,.H .one [I xs.length]),(8,.H .one [I (i:Nat)])]) (λi=>i<=xs.length/\∀(j:Nat)(z:aB),j<i->xs[j]? = some z->pr z=false) (λi=>xs.length - i) 0 ?_ ⟨W0 _,λj z h=>ω⟩ λi e=>?_
 ·exact wB
 obtain⟨e,b⟩:=e;by_cases c:i<xs.length
 ·obtain⟨y,a⟩ : ∃y,xs[i]? = some y:=⟨_,O2 c⟩
  repeat'(first|refine gE ?_|(conv=>whnf);first|with_reducible refine CD (aa a) ?_|refine Fv.mk (k:=.one) (rcs:=[B (pr y)]) ⟨y,C2 a,rfl,rfl,rfl⟩ ?_|refine Bf.P (λl=>?_) (λl=>?_))
  ·exact X0 (λz=>[I z]) (dN a ‹_› b).symm
  (conv=>whnf)
  refine CE (i+1) ⟨ω,λj z h d=>?_⟩ ω ?_
  ·rcases Nat.lt_or_ge j i with g|g
   ·exact b j z g d
   obtain rfl:j=i:=ω
   rw[a]at d;cases d;assumption
  exact wB
 repeat'(first|refine gE ?_|fail)
 exact X0 (λz=>[I z]) (gc ω b).symm
theorem qV(xs:List aB)(pr:aB->Bool)(a:xs.length<=9223372036854775807):zzA 376 false [.val none (bv .V xs),.fn (ro Tryz.prog (Gu (some 2) (aB.enc .V) pr xs))] .one [B (xs.any pr)]:=by
 refine fO 9 [] Tryz.func376 rfl ?_
 repeat'(first|refine gP ?_|(conv=>whnf);first|refine C8 (vP xs pr a) ?_)
 grind [mK]
def uN(r:aB)(page:Int):zzA 377 false [.val (some 2) (aB.enc .V r),.ptr [I page]] .one [B (vG page r)]:=by
 refine fO 17 [] Tryz.func377 rfl ?_
 repeat'(first|refine gP ?_|(conv=>whnf);first|with_reducible refine Bf.D (λa=>?_) (λa=>?_)|refine CM rfl ?_)
 all_goals exact X0 (λz=>[B z]) (by unfold vG;first|(rw[O0 (by assumption:r.At<=page)];simp;done)|(rw[U0 (by assumption:¬r.At<=page)];rfl))
def yU(xs:List aB)(page:Int)(a:xs.length<=9223372036854775807):zzA 228 false [.val none (bv .V xs),.val none [I page]] .one [B (xs.any (vG page))]:=by
 refine fO 8 [] Tryz.func228 rfl ?_
 repeat'(first|refine gP ?_|(conv=>whnf);first|refine Cq.mk (Gu (some 2) (aB.enc .V) (vG page) xs) (uN default page).has (λL k rcs b=>?_) ?_|refine C8 (qV xs (vG page) a) ?_)
 ·obtain⟨x,-,rfl,rfl,rfl⟩:=b
  exact uN x page
 rfl
theorem vH(xs:List aT)(pr:aT->Bool)(g:xs.length<=9223372036854775807):zzA 549 false [.val none (cX .V xs),.fn (ro Tryz.prog (Gu (some 3) (aT.enc .V) pr xs))] .one [I (cW pr xs)]:=by
 refine fO 19 [] Tryz.func549 rfl ?_
 repeat'(first|refine gP ?_|fail)
 (conv=>whnf)
 refine CJ (ι:=Nat) (λi=>[(0,.H .one (cX .V xs)),(1,.fv (ro Tryz.prog (Gu (some 3) (aT.enc .V) pr xs))),(7,.H .one [I xs.length]),(8,.H .one [I (i:Nat)])]) (λi=>i<=xs.length/\∀(j:Nat)(z:aT),j<i->xs[j]? = some z->pr z=false) (λi=>xs.length - i) 0 ?_ ψ λi b=>?_
 ·exact wB
 obtain⟨b,d⟩:=b;by_cases a:i<xs.length
 ·obtain⟨y,c⟩ : ∃y,xs[i]? = some y:=⟨_,O2 a⟩
  repeat'(first|refine gE ?_|(conv=>whnf);first|with_reducible refine CD (aa c) ?_|refine Fv.mk (k:=.one) (rcs:=[B (pr y)]) ⟨y,C2 c,rfl,rfl,rfl⟩ ?_|refine Bf.P (λe=>?_) (λe=>?_))
  ·grind [dN]
  (conv=>whnf)
  refine CE (i+1) ψ ω ?_;exact wB
 repeat'(first|refine gE ?_|fail)
 exact X0 (λz=>[I z]) (gc ω d).symm
theorem rE(xs:List aT)(pr:aT->Bool)(a:xs.length<=9223372036854775807):zzA 488 false [.val none (cX .V xs),.fn (ro Tryz.prog (Gu (some 3) (aT.enc .V) pr xs))] .one [B (xs.any pr)]:=by
 refine fO 9 [] Tryz.func488 rfl ?_
 repeat'(first|refine gP ?_|(conv=>whnf);first|refine C8 (vH xs pr a) ?_)
 grind [mK]
theorem xc(xs:List aA)(pr:aA->Bool)(g:xs.length<=9223372036854775807):zzA 240 false [.val none (cA .V xs),.fn (ro Tryz.prog (Gu (some 3) (aA.enc .V) pr xs))] .one [I (cW pr xs)]:=by
 refine fO 19 [] Tryz.func240 rfl ?_
 repeat'(first|refine gP ?_|fail)
 (conv=>whnf)
 refine CJ (ι:=Nat) (λi=>[(0,.H .one (cA .V xs)),(1,.fv (ro Tryz.prog (Gu (some 3) (aA.enc .V) pr xs))),(7,.H .one [I xs.length]),(8,.H .one [I (i:Nat)])]) (λi=>i<=xs.length/\∀(j:Nat)(z:aA),j<i->xs[j]? = some z->pr z=false) (λi=>xs.length - i) 0 ?_ ψ λi b=>?_
 ·exact wB
 obtain⟨b,d⟩:=b;by_cases a:i<xs.length
 ·obtain⟨y,c⟩ : ∃y,xs[i]? = some y:=⟨_,O2 a⟩
  repeat'(first|refine gE ?_|(conv=>whnf);first|with_reducible refine CD (aa c) ?_|refine Fv.mk (k:=.one) (rcs:=[B (pr y)]) ⟨y,C2 c,rfl,rfl,rfl⟩ ?_|refine Bf.P (λe=>?_) (λe=>?_))
  ·grind [dN]
  (conv=>whnf)
  refine CE (i+1) ψ ω ?_;exact wB
 repeat'(first|refine gE ?_|fail)
 exact X0 (λz=>[I z]) (gc ω d).symm
theorem za(xs:List bt)(pr:bt->Bool)(g:xs.length<=9223372036854775807):zzA 88 false [.val none (nA .V xs),.fn (ro Tryz.prog (Gu (some 4) (bt.enc .V) pr xs))] .one [I (cW pr xs)]:=by
 refine fO 19 [] Tryz.func88 rfl ?_
 repeat'(first|refine gP ?_|fail)
 (conv=>whnf)
 refine CJ (ι:=Nat) (λi=>[(0,.H .one (nA .V xs)),(1,.fv (ro Tryz.prog (Gu (some 4) (bt.enc .V) pr xs))),(7,.H .one [I xs.length]),(8,.H .one [I (i:Nat)])]) (λi=>i<=xs.length/\∀(j:Nat)(z:bt),j<i->xs[j]? = some z->pr z=false) (λi=>xs.length - i) 0 ?_ ψ λi b=>?_
 ·exact wB
 obtain⟨b,d⟩:=b;by_cases a:i<xs.length
 ·obtain⟨y,c⟩ : ∃y,xs[i]? = some y:=⟨_,O2 a⟩
  repeat'(first|refine gE ?_|(conv=>whnf);first|with_reducible refine CD (aa c) ?_|refine Fv.mk (k:=.one) (rcs:=[B (pr y)]) ⟨y,C2 c,rfl,rfl,rfl⟩ ?_|refine Bf.P (λe=>?_) (λe=>?_))
  ·grind [dN]
  (conv=>whnf)
  refine CE (i+1) ψ ω ?_;exact wB
 repeat'(first|refine gE ?_|fail)
 exact X0 (λz=>[I z]) (gc ω d).symm
theorem tN(xs:List bt)(pr:bt->Bool)(a:xs.length<=9223372036854775807):zzA 233 false [.val none (nA .V xs),.fn (ro Tryz.prog (Gu (some 4) (bt.enc .V) pr xs))] .one [B (xs.any pr)]:=by
 refine fO 9 [] Tryz.func233 rfl ?_
 repeat'(first|refine gP ?_|(conv=>whnf);first|refine C8 (za xs pr a) ?_)
 grind [mK]
def P9(a:k<=3):IntKind.i64.wrap (1*2 ^ min ((k:Nat):Int).toNat IntKind.i64.bits)=csz (k:Nat):=by
 obtain rfl|rfl|rfl|rfl:k=0\/k=1\/k=2\/k=3:=ω
 all_goals decide
theorem QO(a:k<=100):IntKind.u64.wrap (k:Nat)=(k:Nat):=by grind [Go.IntKind.wrap,Go.IntKind.bits]
theorem DI(a:k<=3)(h:csz (k:Nat)<z)(b:z<=8):k<=2:=by
 have c:csz ((3:Nat):Int)=8:=by decide
 grind
theorem wR(a:k<=3)(h1:1<=z)(b:k=0\/csz ((k - 1:Nat):Int)<z)(c:¬csz (k:Nat)<z):aL z=(k:Nat):=by
 have d:csz ((0:Nat):Int)=1:=by decide
 have e:csz ((1:Nat):Int)=2:=by decide
 have f:csz ((2:Nat):Int)=4:=by decide
 have g:csz ((3:Nat):Int)=8:=by decide
 unfold aL;obtain rfl|rfl|rfl|rfl:k=0\/k=1\/k=2\/k=3:=ω
 all_goals grind
def kM(z:Int):zzA 220 false [.val none [I z]] .one [I (aL z)]:=by
 refine fO 15 [] Tryz.func220 rfl ?_;by_cases c:1<=z/\z<=8
 ·repeat'(first|refine gE ?_|(conv=>whnf);first|with_reducible refine Bf.D (λb=>?_) (λb=>?_)|refine C8 (aJ z 1 8) ?_)
  (conv=>whnf)
  refine CJ (ι:=Nat) (λk=>[(0,.H .one [I (z)]),(3,.H .one [I ((k:Nat):Int)])]) (λk=>k<=3/\(k=0\/csz ((k - 1:Nat):Int)<z)) (λk=>4 - k) (0) ?_ ω λk a=>?_
  ·exact wB
  obtain⟨a,d⟩:=a
  repeat'(first|refine gP ?_|(conv=>whnf);first|with_reducible refine Bf.D (λb=>?_) (λb=>?_)|refine CM (QO ω) ?_|refine CM (P9 a) ?_|refine CO ω ?_)
  all_goals first
   | exact X0 (λz=>[I z]) (wR a c.1 d (by assumption)).symm
   | ((conv=>whnf);refine CE (k+1) ⟨by have:=DI a (by assumption) c.2;omega,.inr (by simpa using (by assumption:csz (k:Nat)<z))⟩ (by have:=DI a (by assumption) c.2;omega) ?_;(exact wB))
 repeat'(first|refine gE ?_|(conv=>whnf);first|with_reducible refine Bf.D (λb=>?_) (λb=>?_)|refine C8 (aJ z 1 8) ?_)
 all_goals exact X0 (λz=>[I z]) (by unfold aL;(repeat' split)<;>omega)
def tp(z:Int):zzA 64 false [.val none [I z]] .one [I (aL z)]:=by
 refine fO 14 [] Tryz.func64 rfl ?_;by_cases c:1<=z/\z<=8
 ·repeat'(first|refine gE ?_|(conv=>whnf);first|with_reducible refine Bf.D (λa=>?_) (λa=>?_)|refine C8 (aO z 1 8) ?_)
  (conv=>whnf)
  refine CJ (ι:=Nat) (λk=>[(0,.H .one [I (z)]),(3,.H .one [I ((k:Nat):Int)])]) (λk=>k<=3/\(k=0\/csz ((k - 1:Nat):Int)<z)) (λk=>4 - k) (0) ?_ ω λk b=>?_
  ·exact wB
  obtain⟨b,d⟩:=b
  repeat'(first|refine gP ?_|(conv=>whnf);first|with_reducible refine Bf.D (λa=>?_) (λa=>?_)|refine C8 (f9 _) ?_)
  all_goals first
   | exact X0 (λz=>[I z]) (wR b c.1 d (by assumption)).symm
   | ((conv=>whnf);refine CE (k+1) ⟨by have:=DI b (by assumption) c.2;omega,.inr (by simpa using (by assumption:csz (k:Nat)<z))⟩ (by have:=DI b (by assumption) c.2;omega) ?_;(exact wB))
 repeat'(first|refine gE ?_|(conv=>whnf);first|with_reducible refine Bf.D (λa=>?_) (λa=>?_)|refine C8 (aO z 1 8) ?_)
 all_goals exact X0 (λz=>[I z]) (by unfold aL;(repeat' split)<;>omega)
theorem rY(q:bM)(a:Int)(d:bM.sml q):zzA 359 false [.val (some 2) (bM.enc .V q),.val none [I a]] .one [B (q.a6.any (eS a))]:=by
 have j:q.a6.length<=1048576:=d.1;refine fO 21 [] Tryz.func359 rfl ?_
 repeat'(first|refine gP ?_|fail)
 (conv=>whnf)
 refine CJ (ι:=Nat) (λi=>[(1,.H .one [I (a)]),(2,.H .box (bM.enc .V q)),(5,.H .one [I ((i:Nat):Int)])]) (λi=>i<=q.a6.length/\(q.a6.take i).any (eS a)=false) (λi=>q.a6.length - i) (0) ?_ ψ λi c=>?_
 ·exact wB
 obtain⟨c,e⟩:=c;by_cases g:i<q.a6.length
 ·have b:=au g
  repeat'(first|refine gE ?_|(conv=>whnf);first|with_reducible (first|refine CD (aa b) ?_|refine Bf.E (λh=>?_) (λh=>?_)))
  all_goals first
   | exact X0 (λz=>[B z]) ((Dj b (O0 (by assumption))).symm)
   | ((conv=>whnf);refine CE (i+1) ⟨ω,xy b e (U0 (by assumption))⟩ ω ?_;(exact wB))
 repeat'(first|refine gE ?_|fail)
 exact X0 (λz=>[B z]) ψ
def iJ(xs:List aT)(i:Nat):quarCells xs (i+1)=quarCells xs i+csz (nth xs i).d:=rfl
theorem MK(k:Int):0<=csz k/\csz k<=8:=by grind [bZ,csz]
theorem v8(xs:List aT)(c:lC xs):zzA 360 false [.val none (cX .V xs)] .one [I (quarCells xs xs.length)]:=by
 have g:=c.1;refine fO 20 [] Tryz.func360 rfl ?_
 repeat'(first|refine gP ?_|fail)
 (conv=>whnf)
 refine CJ (ι:=Nat) (λi=>[(0,.H .one (cX .V xs)),(3,.H .one [I (quarCells xs i)]),(4,.H .one [I ((i:Nat):Int)])]) (λi=>i<=xs.length/\0<=quarCells xs i/\quarCells xs i<=8*i) (λi=>xs.length - i) (0) ?_ (⟨W0 _,by simp[quarCells],by simp[quarCells]⟩) λi b=>?_
 ·exact wB
 obtain⟨b,h,j⟩:=b;by_cases d:i<xs.length
 ·have e:=au d
  have k:=MK (nth xs i).d;have a:=iJ xs i
  repeat'(first|refine gE ?_|(conv=>whnf);first|with_reducible refine CD (aa e) ?_|refine C8 (ef _) ?_)
  ((conv=>whnf);refine CE (i+1) ω ω ?_)
  rw[a];exact wB
 repeat'(first|refine gE ?_|fail)
 grind
theorem ya(xs:List aT)(c:lC xs):zzA 231 false [.val none (cX .V xs)] .one [I (quarCells xs xs.length)]:=by
 have g:=c.1;refine fO 19 [] Tryz.func231 rfl ?_
 repeat'(first|refine gP ?_|fail)
 (conv=>whnf)
 refine CJ (ι:=Nat) (λi=>[(3,.H .one [I (quarCells xs i)]),(6,.H .one (cX .V xs)),(7,.H .one [I (xs.length)]),(8,.H .one [I ((i:Nat):Int)])]) (λi=>i<=xs.length/\0<=quarCells xs i/\quarCells xs i<=8*i) (λi=>xs.length - i) (0) ?_ (⟨W0 _,by simp[quarCells],by simp[quarCells]⟩) λi b=>?_
 ·exact wB
 obtain⟨b,h,j⟩:=b;by_cases d:i<xs.length
 ·have e:=au d
  have k:=MK (nth xs i).d;have a:=iJ xs i
  repeat'(first|refine gE ?_|(conv=>whnf);first|with_reducible refine CD (aa e) ?_|refine C8 (f9 _) ?_)
  ((conv=>whnf);refine CE (i+1) ω ω ?_)
  rw[a];exact wB
 repeat'(first|refine gE ?_|fail)
 grind
def Bd(a:aT):zzA 358 false [.val (some 3) (aT.enc .V a)] .one [B (decide (0<=a.d/\a.d<=3/\0<=a.Addr/\0<=a.b7))]:=by
 refine fO 16 [] Tryz.func358 rfl ?_
 repeat'(first|refine gP ?_|(conv=>whnf);first|with_reducible refine Bf.D (λb=>?_) (λb=>?_)|refine C8 (aJ _ 0 3) ?_)
 all_goals exact X0 (λz=>[B z]) ((by first|(symm;exact U0 ω)|exact decide_eq_decide.2 ω))
variable{xs:List aT}
theorem Ph(a:lC xs)(i:Nat):lC (xs.take i):=⟨by have:=a.1;grind,λ_ _=>trivial⟩
def pd(q:bM)(a:bM.sml q):zzA 213 false [.val (some 2) (bM.enc .V q)] .one [B (gk q)]:=by
 have l:q.a6.length<=1048576:=a.1;refine fO 57 [(5,29,[17,18,19,20,21,22,23,24,25,26,27,28,29,30,31,32,33,34,35,36,37,38,39,40,41,42,43,44,45]),(7,11,[46,47,48,49,50,51,52,53,54,55,56])] Tryz.func213 rfl ?_
 repeat'(first|refine gP ?_|fail)
 (conv=>whnf)
 refine CJ (ι:=Nat) (λi=>[(1,.H .box (bM.enc .V q)),(3,.H .one [I ((i:Nat):Int)])]) (λi=>i<=q.a6.length/\dd i (kH q.a6)=true) (λi=>q.a6.length - i) 0 ?_ ⟨W0 _,rfl⟩ λi e=>?_
 ·exact wB
 obtain⟨e,g⟩:=e;by_cases b:i<q.a6.length
 ·have j:=au b
  have h:=rY ⟨0,q.a6.take i⟩ (nth q.a6 i).Addr (Ph a i);cases c:(q.a6.take i).any (eS (nth q.a6 i).Addr)<;>rw[show(bM.mk 0 (q.a6.take i)).a6.any (eS (nth q.a6 i).Addr)=_ from c]at h
  all_goals
   repeat'(first|refine gE ?_|(conv=>whnf);first|with_reducible (first|refine CD (aa j) ?_|refine Bf.D (λd=>?_) (λd=>?_))|refine C8 (Bd _) ?_|refine CN ω (aa (gr ω b)) ?_|refine CY i rfl (by simp;omega) (λr k=>by obtain⟨z,-,rfl⟩:=O4.1 k;rfl) (C4 ..) ?_|refine C8 h ?_)
   all_goals first
    | exact X0 (λz=>[B z]) ((by symm;unfold gk;rw[cz b (by unfold kH;first|(rw[c];simp;done)|(rw[U0 ω];rfl))];rfl))
    | ((conv=>whnf);refine CE (i+1) ⟨ω,bU g (by unfold kH;rw[c,O0 ω];rfl)⟩ ω ?_;(exact wB))
 obtain rfl:i=q.a6.length:=ω
 repeat'(first|refine gE ?_|(conv=>whnf);first|with_reducible refine Bf.D (λd=>?_) (λd=>?_)|refine C8 (aJ _ 0 500) ?_|refine C8 (v8 q.a6 a) ?_)
 all_goals exact X0 (λz=>[B z]) ((by unfold gk;rw[g];simp only[Bool.true_and];first|(symm;exact U0 ω)|exact decide_eq_decide.2 ω))
theorem uS(b:aT)(a:Int):zzA 489 false [.val (some 3) (aT.enc .V b),.ptr [I a]] .one [B (eS a b)]:=by
 refine fO 8 [] Tryz.func489 rfl ?_
 repeat'(first|refine gP ?_|fail)
 grind [eS]
def zt(xs:List aT)(a:Int)(b:xs.length<=9223372036854775807):zzA 378 false [.val none (cX .V xs),.val none [I a]] .one [B (xs.any (eS a))]:=by
 refine fO 8 [] Tryz.func378 rfl ?_
 repeat'(first|refine gP ?_|(conv=>whnf);first|refine Cq.mk (Gu (some 3) (aT.enc .V) (eS a) xs) (uS default a).has (λL k rcs c=>?_) ?_|refine C8 (rE xs (eS a) b) ?_)
 ·obtain⟨y,-,rfl,rfl,rfl⟩:=c
  exact uS y a
 rfl
def pS(xs:List aT)(a:aT):Bool:=decide (0<=a.d/\a.d<=3/\0<=a.Addr/\0<=a.b7/\(xs.length=0\/(nth xs (xs.length - 1)).b7<=a.b7))&&!xs.any (eS a.Addr)
theorem Dk(xs:List aT)(b:aT)(g:xs.length<=1048576):zzA 230 false [.val none (cX .V xs),.val (some 3) (aT.enc .V b)] .one [B (pS xs b)]:=by
 have c:=zt xs b.Addr ω;cases d:xs.any (eS b.Addr)<;>rw[d]at c
 ·by_cases h:xs.length=0
  ·refine fO 40 [(3,15,[25,26,27,28,29,30,31,32,33,34,35,36,37,38,39])] Tryz.func230 rfl ?_
   repeat'(first|refine gP ?_|(conv=>whnf);first|with_reducible (first|refine Bf.D (λa=>?_) (λa=>?_)|refine Bf.E (λa=>?_) (λa=>?_))|refine C8 (fw _) ?_|refine C8 c ?_)
   all_goals first
    | exact X0 (λz=>[B z]) ((by unfold pS;rw[d,Bool.not_false,Bool.and_true];first|(symm;exact U0 ω)|(symm;exact O0 ω)|exact decide_eq_decide.2 ω))
    |(exfalso;omega)
    |trace_state
  have e:xs[((xs.length:Int) - 1).toNat]? = some (nth xs (xs.length - 1)):=by rw[show((xs.length:Int) - 1).toNat=xs.length - 1 by omega];grind [au]
  refine fO 40 [(3,15,[25,26,27,28,29,30,31,32,33,34,35,36,37,38,39])] Tryz.func230 rfl ?_
  repeat'(first|refine gP ?_|(conv=>whnf);first|with_reducible (first|refine Bf.D (λa=>?_) (λa=>?_)|refine Bf.E (λa=>?_) (λa=>?_))|refine C8 (fw _) ?_|refine C8 c ?_|refine CN ω (aa e) ?_)
  all_goals first
   | exact X0 (λz=>[B z]) ((by unfold pS;rw[d,Bool.not_false,Bool.and_true];first|(symm;exact U0 ω)|(symm;exact O0 ω)|exact decide_eq_decide.2 ω))
   |(exfalso;omega)
   |trace_state
 refine fO 40 [(3,15,[25,26,27,28,29,30,31,32,33,34,35,36,37,38,39])] Tryz.func230 rfl ?_
 repeat'(first|refine gP ?_|(conv=>whnf);first|with_reducible refine Bf.D (λa=>?_) (λa=>?_)|refine C8 (fw _) ?_|refine C8 c ?_)
 all_goals exact X0 (λz=>[B z]) ((by unfold pS;rw[d];simp))
theorem HN(d:i<xs.length):pS (xs.take i) (nth xs i)=kH xs i:=by
 unfold pS kH;have a:(xs.take i).length=i:=ψ
 rw[a]
 congr 1
 refine decide_eq_decide.2 ?_;by_cases b:i=0
 ·subst b;simp
 have c:nth (xs.take i) (i - 1)=nth xs (i - 1):=by
  have:=au (xs:=xs) (i:=i - 1) ω
  grind [bn]
 rw[c]
theorem FQ(q:bM)(d:bM.sml q):zzA 79 false [.val (some 2) (bM.enc .V q)] .one [B (gk q)]:=by
 have l:q.a6.length<=1048576:=d.1;refine fO 32 [(4,7,[13,14,15,16,17,18,19]),(7,11,[21,22,23,24,25,26,27,28,29,30,31])] Tryz.func79 rfl ?_
 repeat'(first|refine gP ?_|fail)
 (conv=>whnf)
 refine CJ (ι:=Nat) (λi=>[(1,.H .box (bM.enc .V q)),(6,.H .one (cX .V q.a6)),(7,.H .one [I (q.a6.length)]),(8,.H .one [I ((i:Nat):Int)])]) (λi=>i<=q.a6.length/\dd i (kH q.a6)=true) (λi=>q.a6.length - i) 0 ?_ ⟨W0 _,rfl⟩ λi e=>?_
 ·exact wB
 obtain⟨e,g⟩:=e;by_cases a:i<q.a6.length
 ·have h:=au a
  have b:=Dk (q.a6.take i) (nth q.a6 i) ψ;rw[HN a]at b;cases c:kH q.a6 i<;>rw[c]at b
  all_goals
   repeat'(first|refine gE ?_|(conv=>whnf);first|with_reducible refine CD (aa h) ?_|refine CY i rfl (by simp;omega) (λr j=>by obtain⟨z,-,rfl⟩:=O4.1 j;rfl) (C4 ..) ?_|refine C8 b ?_)
   all_goals first
    | exact X0 (λz=>[B z]) ((by symm;unfold gk;rw[cz a c];rfl))
    | ((conv=>whnf);refine CE (i+1) ⟨ω,bU g c⟩ ω ?_;(exact wB))
 obtain rfl:i=q.a6.length:=ω
 repeat'(first|refine gE ?_|(conv=>whnf);first|with_reducible refine Bf.D (λk=>?_) (λk=>?_)|refine C8 (aO _ 0 500) ?_|refine C8 (ya q.a6 d) ?_)
 all_goals exact X0 (λz=>[B z]) ((by unfold gk;rw[g];simp only[Bool.true_and];first|(symm;exact U0 ω)|exact decide_eq_decide.2 ω))
def xF(h:ac):Prop:=aM.sml h.G.F.R
def ik(h:ac)(p:Int)(a:xF h):zzA 355 false [.val (some 24) (ac.enc .V h),.val none [I p]] .one (aH .own (aU h p)):=by
 refine fO 23 [] Tryz.func355 rfl ?_ (.inr (bP _))
 repeat'((conv=>whnf);first|with_reducible (first|refine Lm ?_|refine Wm ω ?_|refine Bf.E (λb=>?_) (λb=>?_)|refine Bn ?_|refine jX.wk rfl ?_)|refine Bt ?_|refine Bu ?_|refine C8 (di h.G.F.R p a) ?_|refine C8 (gK h.G.F.R _ a) ?_)
 all_goals(unfold aU;first|rw[CC (by assumption)]|rw[C9 (by assumption)])
 all_goals exact⟨rfl,trivial⟩
def ot(h:ac)(p:Int)(a:xF h):zzA 227 false [.val (some 24) (ac.enc .V h),.val none [I p]] .one (aH .own (aU h p)):=by
 refine fO 22 [] Tryz.func227 rfl ?_ (.inr (bP _))
 repeat'((conv=>whnf);first|with_reducible (first|refine Lm ?_|refine Wm ω ?_|refine Bf.E (λb=>?_) (λb=>?_)|refine Bn ?_|refine jX.wk rfl ?_)|refine Bt ?_|refine Bu ?_|refine C8 (lA h.G.F.R p a) ?_|refine C8 (kE h.G.F.R _ a) ?_)
 all_goals(unfold aU;first|rw[CC (by assumption)]|rw[C9 (by assumption)])
 all_goals exact⟨rfl,trivial⟩
theorem pm(k:am)(p:Int)(a:aM.sml k.F.R):zzA 127 false [.val (some 5) (am.enc .V k),.val none [I p]] .one [B (decide ((af k.F.R p).e≠0))]:=by
 refine fO 12 [] Tryz.func127 rfl ?_
 repeat'(first|refine gP ?_|(conv=>whnf);first|refine C8 (lA k.F.R p a) ?_)
 grind
def pI(z:Int):zzA 83 false [.val none [I z]] .one [B (decide (0<=z/\z<=1073741823))]:=by
 refine fO 5 [] Tryz.func83 rfl ?_
 repeat'(first|refine gP ?_|(conv=>whnf);first|refine C8 (aO z 0 1073741823) ?_)
 rfl
theorem jP(h:ac)(p:Int)(g:h.J.length<=1048576):zzA 219 false [.val (some 24) (ac.enc .V h),.val none [I p]] .one [I (gJ h p)]:=by
 refine fO 22 [] Tryz.func219 rfl ?_
 repeat'(first|refine gP ?_|fail)
 (conv=>whnf)
 refine CJ (ι:=Nat) (λi=>[(1,.H .one [I (p)]),(2,.H .box (ac.enc .V h)),(5,.H .one [I ((i:Nat):Int)])]) (λi=>i<=h.J.length/\∀(j:Nat)(z:aA),j<i->h.J[j]? = some z->mw p z=false) (λi=>h.J.length - i) (0) ?_ ψ λi c=>?_
 ·exact wB
 obtain⟨c,a⟩:=c;by_cases d:i<h.J.length
 ·have b:=au d
  repeat'(first|refine gE ?_|(conv=>whnf);first|with_reducible (first|refine CD (aa b) ?_|refine Bf.E (λe=>?_) (λe=>?_)))
  all_goals first
   | exact X0 (λz=>[I z]) (dN b (O0 (by assumption)) a).symm
   | ((conv=>whnf);refine CE (i+1) ⟨ω,dX b (U0 (by assumption)) a⟩ ω ?_;(exact wB))
 repeat'(first|refine gE ?_|fail)
 exact X0 (λz=>[I z]) (gc ω a).symm
theorem Bi(s:aA)(p:Int):zzA 241 false [.val (some 3) (aA.enc .V s),.ptr [I p]] .one [B (mw p s)]:=by
 refine fO 8 [] Tryz.func241 rfl ?_
 repeat'(first|refine gP ?_|fail)
 grind [mw]
def uL(h:ac)(p:Int)(b:h.J.length<=1048576):zzA 85 false [.val (some 24) (ac.enc .V h),.val none [I p]] .one [I (gJ h p)]:=by
 refine fO 9 [] Tryz.func85 rfl ?_
 repeat'(first|refine gP ?_|(conv=>whnf);first|refine Cq.mk (Gu (some 3) (aA.enc .V) (mw p) h.J) (Bi default p).has (λL k rcs a=>?_) ?_|refine C8 (xc h.J (mw p) ω) ?_)
 ·obtain⟨y,-,rfl,rfl,rfl⟩:=a
  exact Bi y p
 rfl
def flight1(m:aN)(i:Nat):List Int:=(m.U.take i).flatMap λl=>l.map (·.Addr)
def flight2(m:aN)(i:Nat):List Int:=(m.y.take i).flatten
theorem nH{l:List dw}(h:m.U[i]? = some l):flight1 m (i+1)=flight1 m i++l.map (·.Addr):=by grind [V5,flight1]
theorem nJ(h:m.y[i]? = some l):flight2 m (i+1)=flight2 m i++l:=by grind [V5,flight2]
theorem pq(h:bQ m=true):aQ m=flight1 m m.U.length++flight2 m m.y.length:=by grind [aQ,flight1,flight2]
theorem uM(h:bQ m=false):aQ m=[]:=by grind [aQ]
theorem tn(h:bQ m=true):1<=m.U.length/\m.U.length<=4/\m.y.length=m.U.length:=by grind [bQ]
def Ft : ∀r∈l.map (rI .V),r.length=1:=by
 intro r a;obtain⟨z,-,rfl⟩:=O4.1 a;rfl
def HU : ∀r∈l.map (rI .V),bi r=true:=by
 intro r a;obtain⟨z,-,rfl⟩:=O4.1 a;rfl
theorem zQ(m:aN)(g:aN.sml m):zzA 35 false [.val (some 2) (aN.enc .V m)] .one (aH .own (aQ m)):=by
 have h:=lY m g;cases d:bQ m<;>rw[d]at h
 ·refine fO 56 [] Tryz.func35 rfl ?_ (.inr (bP _))
  repeat'((conv=>whnf);first|with_reducible (first|refine Lm ?_|refine Wm ω ?_|refine Bn ?_|refine jX.wk rfl ?_)|refine Bt ?_|refine Bu ?_|refine C8 h ?_)
  all_goals(rw[uM d];exact⟨rfl,trivial⟩)
 obtain⟨D,E,F⟩:=tn d;refine fO 56 [] Tryz.func35 rfl ?_ (.inr (bP _))
 repeat'(first|refine gP ?_|(conv=>whnf);first|refine C8 h ?_)
 (conv=>whnf)
 refine CJ (ι:=Nat × List Int) (λi=>[(1,.H .box (aN.enc .V m)),(3,.H .one (aH .own i.2)),(4,.H .one [I ((i.1:Nat):Int)])]) (λi=>i.1<=m.U.length/\i.2=flight1 m i.1/\i.2.length<=1048576*i.1) (λi=>m.U.length - i.1) ((0,[])) ?_ (⟨W0 _,rfl,W0 _⟩) λi j=>?_
 ·exact wB
 obtain⟨i,S⟩:=i;obtain⟨j,p,t⟩:=j;simp only at j p t |-;by_cases q:i<m.U.length
 ·have l:=au q
  have u:(nth m.U i).length<=1048576:=(g.1.2 _ (ar q)).1
  repeat'(first|refine gE ?_|(conv=>whnf);first|with_reducible refine CD (aa l) ?_)
  (conv=>whnf)
  refine CJ (ι:=Nat × List Int) (λk=>[(1,.H .box (aN.enc .V m)),(3,.H .one (aH .own k.2)),(4,.H .one [I ((i:Nat):Int)]),(5,.H .one [I ((k.1:Nat):Int)])]) (λk=>k.1<=(nth m.U i).length/\k.2=S++((nth m.U i).take k.1).map (·.Addr)) (λk=>(nth m.U i).length - k.1) ((0,S)) ?_ ψ λk b=>?_
  ·exact wB
  obtain⟨k,c⟩:=k;obtain⟨b,a⟩:=b;simp only at b a |-;have w:c.length=S.length+k:=ψ
  by_cases e:k<(nth m.U i).length
  ·have n:=au e
   repeat'(first|refine gE ?_|(conv=>whnf);first|with_reducible (first|refine CD (aa l) ?_|refine CD (aa n) ?_)|refine CU cI (λr y=>by rw[O1.1 y];rfl) (by simp[bi,eg]) (by simp;omega) (by show _*8<=_;simp;omega) rfl ?_)
   ((conv=>whnf)
    refine CE (k+1,c++[(nth (nth m.U i) k).Addr]) ⟨(by simp only;omega),(by grind [V5])⟩ (by simp only;omega) ?_
    (repeat'(first|exact trivial|rfl|exact CL rfl (CL (X0 (C.s dQ.own) (by simp[rI])) trivial)|refine CL ?_ ?_)))
  obtain rfl:k=(nth m.U i).length:=ω
  rw[C5]at a
  repeat'(first|refine gE ?_|(conv=>whnf);first|with_reducible refine CD (aa l) ?_)
  ((conv=>whnf);refine CE (i+1,c) ⟨(by simp only;omega),(by grind [nH]),(by simp only;omega)⟩ (by simp only;omega) ?_;(exact wB))
 obtain rfl:i=m.U.length:=ω
 repeat'(first|refine gE ?_|fail)
 (conv=>whnf)
 refine CJ (ι:=Nat × List Int) (λk=>[(1,.H .box (aN.enc .V m)),(3,.H .one (aH .own k.2)),(6,.H .one [I ((k.1:Nat):Int)])]) (λk=>k.1<=m.y.length/\k.2=S++flight2 m k.1/\k.2.length<=S.length+1048576*k.1) (λk=>m.y.length - k.1) ((0,S)) ?_ (⟨W0 _,by simp[flight2],by simp⟩) λk b=>?_
 ·exact wB
 obtain⟨k,c⟩:=k;obtain⟨b,a,o⟩:=b;simp only at b a o |-;by_cases e:k<m.y.length
 ·have n:=au e
  have B:(nth m.y k).length<=1048576:=g.2.2 _ (ar e)
  repeat'(first|refine gE ?_|(conv=>whnf);first|with_reducible refine CD (aa n) ?_|refine CU cI Ft (λ_=>HU) (by simp;omega) (by show _*8<=_;simp;omega) rfl ?_)
  ((conv=>whnf)
   refine CE (k+1,c++nth m.y k) ⟨(by simp only;omega),(by grind [nJ]),ψ⟩ (by simp only;omega) ?_
   (repeat'(first|exact trivial|rfl|exact CL rfl (CL (X0 (C.s dQ.own) (by simp[rI])) trivial)|refine CL ?_ ?_)))
 obtain rfl:k=m.y.length:=ω
 repeat'(first|refine gE ?_|fail)
 rw[pq d,<-p,<-a];rfl
theorem zo(m:aN)(g:aN.sml m):zzA 237 false [.val (some 2) (aN.enc .V m)] .one (aH .own (aQ m)):=by
 have h:=vq m g;cases d:bQ m<;>rw[d]at h
 ·refine fO 46 [] Tryz.func237 rfl ?_ (.inr (bP _))
  repeat'((conv=>whnf);first|with_reducible (first|refine Lm ?_|refine Wm ω ?_|refine Bn ?_|refine jX.wk rfl ?_)|refine Bt ?_|refine Bu ?_|refine C8 h ?_)
  all_goals(rw[uM d];exact⟨rfl,trivial⟩)
 obtain⟨D,E,F⟩:=tn d;refine fO 46 [] Tryz.func237 rfl ?_ (.inr (bP _))
 repeat'(first|refine gP ?_|(conv=>whnf);first|refine C8 h ?_)
 (conv=>whnf)
 refine CJ (ι:=Nat × List Int) (λi=>[(1,.H .box (aN.enc .V m)),(3,.H .one (aH .own i.2)),(15,.H .one (xh .V m.U)),(16,.H .one [I (m.U.length)]),(17,.H .one [I ((i.1:Nat):Int)])]) (λi=>i.1<=m.U.length/\i.2=flight1 m i.1/\i.2.length<=1048576*i.1) (λi=>m.U.length - i.1) ((0,[])) ?_ (⟨W0 _,rfl,W0 _⟩) λi j=>?_
 ·exact wB
 obtain⟨i,S⟩:=i;obtain⟨j,o,q⟩:=j;simp only at j o q |-;by_cases p:i<m.U.length
 ·have t:=au p
  have u:(nth m.U i).length<=1048576:=(g.1.2 _ (ar p)).1
  repeat'(first|refine gE ?_|(conv=>whnf);first|with_reducible refine CD (aa t) ?_)
  (conv=>whnf)
  refine CJ (ι:=Nat × List Int) (λk=>[(1,.H .box (aN.enc .V m)),(3,.H .one (aH .own k.2)),(15,.H .one (xh .V m.U)),(16,.H .one [I (m.U.length)]),(17,.H .one [I ((i:Nat):Int)]),(21,.H .one (cF .V (nth m.U i))),(22,.H .one [I ((nth m.U i).length)]),(23,.H .one [I ((k.1:Nat):Int)])]) (λk=>k.1<=(nth m.U i).length/\k.2=S++((nth m.U i).take k.1).map (·.Addr)) (λk=>(nth m.U i).length - k.1) ((0,S)) ?_ ψ λk b=>?_
  ·exact wB
  obtain⟨k,c⟩:=k;obtain⟨b,a⟩:=b;simp only at b a |-;have w:c.length=S.length+k:=ψ
  by_cases e:k<(nth m.U i).length
  ·have l:=au e
   repeat'(first|refine gE ?_|(conv=>whnf);first|with_reducible refine CD (aa l) ?_|refine CU cI (λr y=>by rw[O1.1 y];rfl) (by simp[bi,eg]) (by simp;omega) (by show _*8<=_;simp;omega) rfl ?_)
   ((conv=>whnf)
    refine CE (k+1,c++[(nth (nth m.U i) k).Addr]) ⟨(by simp only;omega),(by grind [V5])⟩ (by simp only;omega) ?_
    (repeat'(first|exact trivial|rfl|exact CL rfl (CL (X0 (C.s dQ.own) (by simp[rI])) trivial)|refine CL ?_ ?_)))
  obtain rfl:k=(nth m.U i).length:=ω
  rw[C5]at a
  repeat'(first|refine gE ?_|fail)
  ((conv=>whnf);refine CE (i+1,c) ⟨(by simp only;omega),(by grind [nH]),(by simp only;omega)⟩ (by simp only;omega) ?_;(exact wB))
 obtain rfl:i=m.U.length:=ω
 repeat'(first|refine gE ?_|fail)
 (conv=>whnf)
 refine CJ (ι:=Nat × List Int) (λk=>[(3,.H .one (aH .own k.2)),(35,.H .one (jq .V m.y)),(36,.H .one [I (m.y.length)]),(37,.H .one [I ((k.1:Nat):Int)])]) (λk=>k.1<=m.y.length/\k.2=S++flight2 m k.1/\k.2.length<=S.length+1048576*k.1) (λk=>m.y.length - k.1) ((0,S)) ?_ (⟨W0 _,by simp[flight2],by simp⟩) λk b=>?_
 ·exact wB
 obtain⟨k,c⟩:=k;obtain⟨b,a,n⟩:=b;simp only at b a n |-;by_cases e:k<m.y.length
 ·have l:=au e
  have B:(nth m.y k).length<=1048576:=g.2.2 _ (ar e)
  repeat'(first|refine gE ?_|(conv=>whnf);first|with_reducible refine CD (aa l) ?_|refine CU cI Ft (λ_=>HU) (by simp;omega) (by show _*8<=_;simp;omega) rfl ?_)
  ((conv=>whnf)
   refine CE (k+1,c++nth m.y k) ⟨(by simp only;omega),(by grind [nJ]),ψ⟩ (by simp only;omega) ?_
   (repeat'(first|exact trivial|rfl|exact CL rfl (CL (X0 (C.s dQ.own) (by simp[rI])) trivial)|refine CL ?_ ?_)))
 obtain rfl:k=m.y.length:=ω
 repeat'(first|refine gE ?_|fail)
 rw[pq d,<-o,<-a];rfl
def tbl(h:ac):aM:=h.G.F.R
def eX(h:ac):Nat:=h.G.F.R.K.length
def xi(xs:List aA)(i:Nat):Bool:=decide (i=0\/(nth xs (i - 1)).Q<(nth xs i).Q)
def xe(xs:List aD)(i:Nat):Bool:=decide (i=0\/(nth xs (i - 1)).Q<(nth xs i).Q)
def xE(h:ac)(l:aD)(k:Nat):Bool:=decide ((aU h (l.Q+(k:Nat))).length=1)
def tU(h:ac)(i:Nat):Bool:=xe h.M i&&dd (nth h.M i).a2.toNat (xE h (nth h.M i))
def vF(h:ac)(p:Nat):Bool:=decide ((nth (tbl h).K p).e≠0↔(p:Int)∈pgs h.J h.M)&&(decide ((nth (tbl h).K p).e≠0) != h.j.any (vG (p:Nat)))
def pages0(h:ac):Bool:=((dd h.J.length (xi h.J)&&dd h.M.length (tU h))&&(pgs h.J h.M).all λp=>decide (p<eX h))&&dd (eX h) (vF h)
def mr(h:ac)(i:Nat)(q:Int):Bool:=decide (gJ h q=(i:Nat)) || (decide (0<=gJ h q)&&meshable (nth h.J i) (nth h.J (gJ h q).toNat))
def ve(h:ac):Bool:=dd h.J.length λi=>(aU h (nth h.J i).Q).all (mr h i)
def mA(h:ac)(i j:Nat):Bool:=decide ((af (tbl h) (nth h.J i).Q).o≠(af (tbl h) (nth h.J j).Q).o) || meshable (nth h.J i) (nth h.J j)
def oO(h:ac):Bool:=dd h.J.length λi=>dd i (mA h i)
def lc(z:Int)(o:bt):Bool:=decide (o.Id=z)
def k7(h:ac)(o:bt):Bool:=
 let w:=denotes h.J h.M o.Addr
 decide (w.c4=0)&&((decide (w.b5=1)&&decide ((nth h.J w.c3.toNat).d=aL o.q)) || (decide (w.b5=3)&&decide ((nth h.M w.c3.toNat).q=o.q)))
def io(a:Int)(h:ac)(i:Nat):Bool:=decide ((i=0\/(nth h.O (i - 1)).Addr<(nth h.O i).Addr)/\1<=(nth h.O i).Id/\(nth h.O i).Id<=a/\0<=(nth h.O i).a4/\(nth h.O i).a4<=h.S.length - 1)
def objAt(a:Int)(h:ac)(i:Nat):Bool:=(io a h i&&!(h.O.take i).any (lc (nth h.O i).Id))&&k7 h (nth h.O i)
def gp(h:ac):Bool:=dd h.O.length (objAt (IntKind.i64.wrap (h.b - 1)) h)
def du(h:ac)(a c:Int):Bool:=
 let w:=denotes h.J h.M a
 (decide (w.b5=1)&&decide (w.c4=0))&&(decide (c<0) || decide ((nth h.J w.c3.toNat).d=c))
def tq(h:ac)(c:aE)(k:Nat):Bool:=(nth c.a k).all λa=>du h a (k:Nat)
def eU(h:ac)(c:aE):Bool:=dd c.a.length (tq h c)
def hB(h:ac)(x:aT):Bool:=du h x.Addr x.d
def kD(h:ac)(a:Int):Bool:=du h a (-1)
def cC(h:ac):List Int:=h.S.flatMap λc=>c.a.flatten
def jC(h:ac):Bool:=((h.S.all (eU h))&&h.a7.a6.all (hB h))&&(aQ h.w).all (kD h)
def holders(h:ac):List Int:=((h.O.map (·.Addr)++cC h)++h.a7.a6.map (·.Addr))++aQ h.w
def kg(sp:List aA)(la:List aD)(a:Nat):Bool:=
 let w:=denotes sp la (a:Nat)
 decide (w.c4=0)&&(decide (w.b5=1) || decide (w.b5=3))
def lS(sp:List aA)(la:List aD)(n:Nat):List Int:=((List.range n).filter (kg sp la)).map λ(i:Nat)=>(i:Int)
def kw(sp:List aA)(la:List aD):List Int:=lS sp la 512
def ky(h:ac):Bool:=(jC h&&decide (holders h).Nodup)&&decide ((holders h).length=(kw h.J h.M).length)
def og(h:ac):Bool:=h.a7.a6.all λx=>decide (x.b7<=h.b1)
def cu(h:ac):Bool:=decide (0<=h.b3/\h.b3<=1073741823/\0<=h.b1/\h.b1<=1000000/\0<=h.c0/\h.c0<=1000/\1<=h.b/\h.b<=1000000)
def wt(h:ac):Bool:=if h.u then(jL h.Y&&decide (0<=gJ h h.Y.X.a3))&&decide (0<=gJ h h.Y.X.a1) else sM h.Y
def nZ(h:ac):Bool:=((aF h.G&&bC (eX h) h.j)&&bq h.J h.M)&&pages0 h
set_option maxHeartbeats 8000000
theorem ee(h:bq sp la=true):sp.all bh=true/\la.all bN=true/\(pgs sp la).Nodup:=by grind [bq]
def QN[Inhabited α]{xs:List α}{p:α->Bool}(h:xs.all p=true)(a:i<xs.length):p (nth xs i)=true:=v4.1 h _ (ar a)
variable{h:ac}
theorem Gi(h1:dd h.J.length (xi h.J)=false):pages0 h=false:=by grind [pages0]
theorem sF(h1:dd h.M.length (tU h)=false):pages0 h=false:=by grind [pages0]
theorem Gh(h1:p∈pgs h.J h.M)(a:¬p<eX h):pages0 h=false:=by grind [pages0]
theorem EB(h1:dd (eX h) (vF h)=false):pages0 h=false:=by grind [pages0]
theorem yp(h1:dd h.J.length (xi h.J)=true)(a:dd h.M.length (tU h)=true)(b:∀p∈pgs h.J h.M,p<eX h)(c:dd (eX h) (vF h)=true):pages0 h=true:=by grind [pages0]
theorem Mz(h1:xe h.M i=false):tU h i=false:=by grind [tU]
theorem MW(a:k<(nth h.M i).a2.toNat)(h1:xE h (nth h.M i) k=false):tU h i=false:=by grind [cz,tU]
theorem Fa(h1:xe h.M i=true)(a:dd (nth h.M i).a2.toNat (xE h (nth h.M i))=true):tU h i=true:=by grind [tU]
def gg(h:ac)(p:Int):(aU h p).length<=eX h:=by
 unfold aU;split
 ·simp
 exact r6 ..
theorem u9(h:bq sp la=true){l:aD}(a:la[i]? = some l):1<=l.a2/\l.a2<=63/\0<=l.Q/\l.Q<=31:=
 aS (v4.1 (ee h).2.1 l ψ)
theorem Fc(h:ac)(y:d9 h.J)(E:dM h.M)(g:xF h)(F:gw h.j)(l:bq h.J h.M=true):zzA 211 false [.val (some 24) (ac.enc .V h)] .one [B (pages0 h)]:=by
 have Y:=y.1;have Z:=E.1;have hl3:eX h<=1048576:=g.1;have hl4:=F.1;refine fO 144 [(7,18,[28,29,30,31,32,33,34,35,36,37,38,39,40,41,42,43,44,45]),(13,18,[62,63,64,65,66,67,68,69,70,71,72,73,74,75,76,77,78,79])] Tryz.func211 rfl ?_
 repeat'(first|refine gP ?_|fail)
 (conv=>whnf)
 refine CJ (ι:=Nat × List Int) (λi=>[(1,.H .box (ac.enc .V h)),(3,.H .box (aM.enc .V (tbl h))),(4,.H .one [I (eX h)]),(5,.H .one (aH .own i.2)),(6,.H .one [I ((i.1:Nat):Int)])]) (λi=>i.1<=h.J.length/\i.2=(h.J.take i.1).map (·.Q)/\dd i.1 (xi h.J)=true) (λi=>h.J.length - i.1) ((0,[])) ?_ (⟨W0 _,rfl,rfl⟩) λi G=>?_
 ·exact wB
 obtain⟨i,S⟩:=i;obtain⟨G,H,J⟩:=G;simp only at G H J |-;have hSl:S.length=i:=ψ
 by_cases K:i<h.J.length
 ·have b:=au K
  repeat'(first|refine gE ?_|(conv=>whnf);first|with_reducible (first|refine CD (aa b) ?_|refine Bf.D (λa=>?_) (λa=>?_))|refine CN ω (aa (gr ω K)) ?_|refine CU cI (λr n=>by rw[O1.1 n];rfl) (by simp[bi,eg]) (by simp;omega) (by simp only[C1];exact yJ (by simp;omega) (by decide)) rfl ?_)
  all_goals first
   | exact X0 (λz=>[B z]) ((Gi (cz K (U0 ω))).symm)
   | ((conv=>whnf)
      refine CE (i+1,S++[(nth h.J i).Q]) ⟨(by simp only;omega),(by simp only;rw[H,V5,b];simp),bU J (O0 ω)⟩ (by simp only;omega) ?_
      (repeat'(first|exact trivial|rfl|exact CL rfl (CL (X0 (C.s dQ.own) (by simp[rI])) trivial)|refine CL ?_ ?_)))
 obtain rfl:i=h.J.length:=ω
 rw[C5]at H
 repeat'(first|refine gE ?_|fail)
 (conv=>whnf)
 refine CJ (ι:=Nat × List Int) (λk=>[(1,.H .box (ac.enc .V h)),(3,.H .box (aM.enc .V (tbl h))),(4,.H .one [I (eX h)]),(5,.H .one (aH .own k.2)),(7,.H .one [I ((k.1:Nat):Int)])]) (λk=>k.1<=h.M.length/\k.2=pgs h.J (h.M.take k.1)/\dd k.1 (tU h)=true/\k.2.length<=1048576+64*k.1) (λk=>h.M.length - k.1) ((0,S)) ?_ (⟨W0 _,by grind [pgs],rfl,by simp only;omega⟩) λk L=>?_
 ·exact wB
 obtain⟨k,S2⟩:=k;obtain⟨L,c,M,O⟩:=L;simp only at L c M O |-;by_cases u:k<h.M.length
 ·have b:=au u
  have hpg:=u9 l b
  repeat'(first|refine gE ?_|(conv=>whnf);first|with_reducible (first|refine CD (aa b) ?_|refine Bf.D (λa=>?_) (λa=>?_))|refine CN ω (aa (gr ω u)) ?_)
  all_goals first
   | exact X0 (λz=>[B z]) ((sF (cz u (Mz (U0 ω)))).symm)
   |have e:xe h.M k=true:=O0 ω
    (conv=>whnf)
    refine CJ (ι:=Nat × List Int) (λq=>[(1,.H .box (ac.enc .V h)),(3,.H .box (aM.enc .V (tbl h))),(4,.H .one [I (eX h)]),(5,.H .one (aH .own q.2)),(7,.H .one [I ((k:Nat):Int)]),(8,.H .one [I ((q.1:Nat):Int)])]) (λq=>q.1<=(nth h.M k).a2.toNat/\q.2=S2++lpgs (nth h.M k) q.1/\dd q.1 (xE h (nth h.M k))=true) (λq=>(nth h.M k).a2.toNat - q.1) ((0,S2)) ?_ (⟨W0 _,by simp[lpgs],rfl⟩) λq a=>?_
    ·exact wB
    obtain⟨q,Q⟩:=q;obtain⟨R,d,o⟩:=a;simp only at R d o |-;have U:Q.length=S2.length+q:=by rw[d,U3,F5]
    by_cases w:q<(nth h.M k).a2.toNat
    ·have hfl:=gg h ((nth h.M k).Q+(q:Nat))
     repeat'(first|refine gE ?_|(conv=>whnf);first|with_reducible (first|refine CD (aa b) ?_|refine Bf.N (λa=>?_) (λa=>?_))|refine C8 (ik h _ g) ?_|refine CU cI (λr n=>by rw[O1.1 n];rfl) (by simp[bi,eg]) (by simp;omega) (by show _*8<=_;simp;omega) rfl ?_)
     all_goals first
      | exact X0 (λz=>[B z]) ((sF (cz u (MW w (U0 ω)))).symm)
      | ((conv=>whnf)
         refine CE (q+1,Q++[(nth h.M k).Q+(q:Nat)]) ⟨(by simp only;omega),(by simp only;rw[d,kR,W5]),bU o (O0 ω)⟩ (by simp only;omega) ?_
         (repeat'(first|exact trivial|rfl|exact CL rfl (CL (X0 (C.s dQ.own) (by simp[rI])) trivial)|refine CL ?_ ?_)))
    obtain rfl:q=(nth h.M k).a2.toNat:=ω
    repeat'(first|refine gE ?_|(conv=>whnf);first|with_reducible refine CD (aa b) ?_)
    ((conv=>whnf);refine CE (k+1,Q) ⟨(by simp only;omega),(by simp only;rw[d,c,<-pB _ b]),bU M (Fa e o),(by simp only;omega)⟩ (by simp only;omega) ?_;(exact wB))
 obtain rfl:k=h.M.length:=ω
 rw[C5]at c
 repeat'(first|refine gE ?_|fail)
 (conv=>whnf)
 refine CJ (ι:=Nat) (λq=>[(1,.H .box (ac.enc .V h)),(3,.H .box (aM.enc .V (tbl h))),(4,.H .one [I (eX h)]),(5,.H .one (aH .own S2)),(10,.H .one [I ((q:Nat):Int)])]) (λq=>q<=S2.length/\∀j,j<q->nth S2 j<eX h) (λq=>S2.length - q) (0) ?_ ψ λq a=>?_
 ·exact wB
 obtain⟨a,o⟩:=a;by_cases w:q<S2.length
 ·have b:=au w
  repeat'(first|refine gE ?_|(conv=>whnf);first|with_reducible (first|refine CD (aa b) ?_|refine Bf.D (λa=>?_) (λa=>?_))|refine CH rfl (aa b) rfl ?_)
  all_goals first
   | exact X0 (λz=>[B z]) ((Gh (by rw[<-c];exact ar w) ω).symm)
   | ((conv=>whnf);refine CE (q+1) ⟨ω,λj hj=>by rcases Nat.lt_or_ge j q with V|V;exact o j V;(obtain rfl:j=q:=ω);omega⟩ ω ?_;(exact wB))
 have t:∀p∈pgs h.J h.M,p<eX h:=λp T=>by grind [List.mem_iff_getElem?,bn]
 repeat'(first|refine gE ?_|fail)
 (conv=>whnf)
 refine CJ (ι:=Nat) (λp=>[(1,.H .box (ac.enc .V h)),(3,.H .box (aM.enc .V (tbl h))),(4,.H .one [I (eX h)]),(5,.H .one (aH .own S2)),(11,.H .one [I ((p:Nat):Int)])]) (λp=>p<=eX h/\dd p (vF h)=true) (λp=>eX h - p) 0 ?_ ⟨W0 _,rfl⟩ λp T=>?_
 ·exact wB
 obtain⟨T,W⟩:=T;by_cases X:p<eX h
 ·have b:=au (xs:=(tbl h).K) X
  have n:=zj h.j (p:Nat) ω
  repeat'(first|refine gE ?_|(conv=>whnf);first|with_reducible (first|refine CD (aa b) ?_|refine Bf.D (λa=>?_) (λa=>?_)|refine Bf.NB (λa=>?_) (λa=>?_))|refine CF (mQ S2 _ ω) ⟨⟨rfl,dR _⟩,⟨rfl,rfl⟩,trivial⟩ ?_|refine C8 n ?_|refine Bf.P (λa=>?_) (λa=>?_))
  all_goals first
   | exact X0 (λz=>[B z]) ((EB (cz X (by unfold vF;rw[<-c];grind))).symm)
   | ((conv=>whnf);refine CE (p+1) ⟨ω,bU W (by unfold vF;rw[<-c];grind)⟩ ω ?_;(exact wB))
 repeat'(first|refine gE ?_|fail)
 obtain rfl:p=eX h:=ω
 exact X0 (λz=>[B z]) ((yp J M t W).symm)
set_option maxHeartbeats 8000000
def AS{z1 z2:Int}(h:z1=z2):Qo (I z1) (I z2):=by subst h;rfl
theorem JQ : z∈ins S p↔z∈S\/z=p:=by grind [ins]
theorem xK(S:List Int):(fR S).map (·.1)=S:=by unfold fR;rw[List.map_map];simp[Y5]
theorem m0{t:aM}{p:Nat}(a:p<t.K.length):af t (p:Nat)=nth t.K p:=by grind [af]
theorem Dv(h:ac)(G:d9 h.J)(H:dM h.M)(d:xF h)(J:gw h.j)(u:bq h.J h.M=true):zzA 77 false [.val (some 24) (ac.enc .V h)] .one [B (pages0 h&&oO h)]:=by
 have hl1:=G.1;have hl2:=H.1;have hl3:eX h<=1048576:=d.1;have hl4:=J.1;have b:pages0 h=false->[B false]=[B (pages0 h&&oO h)]:=ψ
 refine fO 177 [(4,14,[25,26,27,28,29,30,31,32,33,34,35,36,37,38]),(16,14,[60,61,62,63,64,65,66,67,68,69,70,71,72,73]),(28,18,[102,103,104,105,106,107,108,109,110,111,112,113,114,115,116,117,118,119]),(42,23,[152,153,154,155,156,157,158,159,160,161,162,163,164,165,166,167,168,169,170,171,172,173,174])] Tryz.func77 rfl ?_
 repeat'(first|refine gP ?_|fail)
 (conv=>whnf)
 refine CJ (ι:=Nat) (λi=>[(1,.H .box (ac.enc .V h)),(18,.H .one (cA .V h.J)),(19,.H .one [I (h.J.length)]),(20,.H .one [I ((i:Nat):Int)])]) (λi=>i<=h.J.length/\dd i (xi h.J)=true) (λi=>h.J.length - i) 0 ?_ ⟨W0 _,rfl⟩ λi g=>?_
 ·exact wB
 obtain⟨g,C⟩:=g;by_cases o:i<h.J.length
 ·have e:=au o
  repeat'(first|refine gE ?_|(conv=>whnf);first|with_reducible (first|refine CD (aa e) ?_|refine Bf.D (λa=>?_) (λa=>?_))|refine CN ω (aa (gr ω o)) ?_)
  all_goals first
   |exact b (Gi (cz o (U0 ω)))
   | ((conv=>whnf);refine CE (i+1) ⟨ω,bU C (O0 ω)⟩ ω ?_;(exact wB))
 obtain rfl:i=h.J.length:=ω
 repeat'(first|refine gE ?_|fail)
 (conv=>whnf)
 refine CJ (ι:=Nat × List Int) (λi=>[(1,.H .box (ac.enc .V h)),(5,.H .one [.m (fR i.2)]),(42,.H .one (cA .V h.J)),(43,.H .one [I (h.J.length)]),(44,.H .one [I ((i.1:Nat):Int)])]) (λi=>i.1<=h.J.length/\∀z,z∈i.2↔z∈(h.J.take i.1).map (·.Q)) (λi=>h.J.length - i.1) ((0,[])) ?_ ψ λi g=>?_
 ·exact wB
 obtain⟨i,S⟩:=i;obtain⟨K,Z⟩:=g;simp only at K Z |-;by_cases li2:i<h.J.length
 ·have e:=au li2
  repeat'(first|refine gE ?_|(conv=>whnf);first|with_reducible refine CD (aa e) ?_|refine Mu.mk (xa S _) ?_)
  ((conv=>whnf);refine CE (i+1,ins S (nth h.J i).Q) ⟨(by simp only;omega),λz=>by grind [JQ,V5]⟩ (by simp only;omega) ?_;(exact wB))
 obtain rfl:i=h.J.length:=ω
 rw[C5]at Z
 repeat'(first|refine gE ?_|fail)
 (conv=>whnf)
 refine CJ (ι:=Nat × List Int) (λk=>[(1,.H .box (ac.enc .V h)),(5,.H .one [.m (fR k.2)]),(53,.H .one (cy .V h.M)),(54,.H .one [I (h.M.length)]),(55,.H .one [I ((k.1:Nat):Int)])]) (λk=>k.1<=h.M.length/\(∀z,z∈k.2↔z∈pgs h.J (h.M.take k.1))/\dd k.1 (tU h)=true) (λk=>h.M.length - k.1) ((0,S)) ?_ (⟨W0 _,λz=>by grind [pgs],rfl⟩) λk L=>?_
 ·exact wB
 obtain⟨k,S2⟩:=k;obtain⟨L,c,M⟩:=L;simp only at L c M |-;by_cases F:k<h.M.length
 ·have e:=au F
  have hpg:=u9 u e
  repeat'(first|refine gE ?_|(conv=>whnf);first|with_reducible (first|refine CD (aa e) ?_|refine Bf.D (λa=>?_) (λa=>?_))|refine CN ω (aa (gr ω F)) ?_)
  all_goals first
   |exact b (sF (cz F (Mz (U0 ω))))
   |have l:xe h.M k=true:=O0 ω
    (conv=>whnf)
    refine CJ (ι:=Nat × List Int) (λq=>[(1,.H .box (ac.enc .V h)),(5,.H .one [.m (fR q.2)]),(9,.H .box (aD.enc .V (nth h.M k))),(10,.H .one [I ((nth h.M k).Q+(q.1:Nat))]),(53,.H .one (cy .V h.M)),(54,.H .one [I (h.M.length)]),(55,.H .one [I ((k:Nat):Int)])]) (λq=>q.1<=(nth h.M k).a2.toNat/\(∀z,z∈q.2↔z∈S2++lpgs (nth h.M k) q.1)/\dd q.1 (xE h (nth h.M k))=true) (λq=>(nth h.M k).a2.toNat - q.1) ((0,S2)) ?_ (⟨W0 _,λz=>by simp[lpgs],rfl⟩) λq a=>?_
    ·exact wB
    obtain⟨q,O⟩:=q;obtain⟨Q,n,R⟩:=a;simp only at Q n R |-;by_cases lq:q<(nth h.M k).a2.toNat
    ·have hfl:=gg h ((nth h.M k).Q+(q:Nat))
     repeat'(first|refine gE ?_|(conv=>whnf);first|with_reducible refine Bf.N (λa=>?_) (λa=>?_)|refine C8 (ot h _ d) ?_|refine Mu.mk (xa O _) ?_)
     all_goals first
      |exact b (sF (cz F (MW lq (U0 ω))))
      | ((conv=>whnf)
         refine CE (q+1,ins O ((nth h.M k).Q+(q:Nat))) ⟨(by simp only;omega),λz=>by simp only[JQ,n];rw[kR];simp[or_assoc],bU R (O0 ω)⟩ (by simp only;omega) ?_
         (repeat'(first|exact trivial|rfl|refine CL ?_ ?_|exact AS (by simp;omega))))
    obtain rfl:q=(nth h.M k).a2.toNat:=ω
    repeat'(first|refine gE ?_|fail)
    ((conv=>whnf);refine CE (k+1,O) ⟨(by simp only;omega),(λz=>by simp only[n];rw[pB _ e];simp[c]),bU M (Fa l R)⟩ (by simp only;omega) ?_;(exact wB))
 obtain rfl:k=h.M.length:=ω
 rw[C5]at c
 repeat'(first|refine gE ?_|fail)
 (conv=>whnf)
 refine CJ (ι:=Nat) (λp=>[(1,.H .box (ac.enc .V h)),(5,.H .one [.m (fR S2)]),(98,.H .one [I (eX h)]),(99,.H .one [I ((p:Nat):Int)])]) (λp=>p<=eX h/\dd p (vF h)=true) (λp=>eX h - p) 0 ?_ ⟨W0 _,rfl⟩ λp hp=>?_
 ·exact wB
 obtain⟨hp,ap⟩:=hp;by_cases lp:p<eX h
 ·have T:=yU h.j (p:Nat) ω
  have w:=pm h.G (p:Nat) d;rw[m0 lp]at w
  repeat'(first|refine gE ?_|(conv=>whnf);first|with_reducible (first|refine Bf.D (λa=>?_) (λa=>?_)|refine Bf.NB (λa=>?_) (λa=>?_))|refine C8 w ?_|refine Ml.mk (nk (p:Nat) S2) ?_|refine C8 T ?_|refine Bf.P (λa=>?_) (λa=>?_))
  all_goals first
   |exact b (EB (cz lp (by unfold vF tbl;have:=c (p:Nat);grind)))
   | ((conv=>whnf);refine CE (p+1) ⟨ω,bU ap (by unfold vF tbl;have:=c (p:Nat);grind)⟩ ω ?_;(exact wB))
 obtain rfl:p=eX h:=ω
 repeat'(first|refine gE ?_|fail)
 have hpn:eX h=h.G.F.R.K.length:=rfl
 (conv=>whnf)
 refine CJ (ι:=Option Int × List Int) (λt=>[(1,.H .box (ac.enc .V h)),(122,.H .one [.it t.1 t.2])]) (λt=>(∀z∈S2,z∈t.2\/z<eX h)/\∀z∈t.2,z∈S2) (λt=>t.2.length) ((none,(fR S2).map (·.1))) ?_ (⟨λz hz=>.inl (by grind [xK]),λz hz=>by grind [xK]⟩) λt ht=>?_
 ·exact wB
 obtain⟨cur,left⟩:=t;obtain⟨U,V⟩:=ht;simp only at U V |-
 repeat'(first|refine gP ?_|(conv=>whnf);first|with_reducible refine Bf.D (λa=>?_) (λa=>?_)|refine Nt.mk (λa=>?_) (λl1 k l2 a=>?_))
 rotate_left
 ·exact b (Gh (p:=k) ψ ω)
 ·((conv=>whnf);refine CE (some k,l1++l2) ψ (by subst left;simp) ?_;(exact wB))
 have y:∀p∈pgs h.J h.M,p<eX h:=ψ
 have h0:pages0 h=true:=yp C M y ap;rw[h0,Bool.true_and]
 (conv=>whnf)
 refine CJ (ι:=Nat) (λi=>[(1,.H .box (ac.enc .V h)),(136,.H .one (cA .V h.J)),(137,.H .one [I (h.J.length)]),(138,.H .one [I ((i:Nat):Int)])]) (λi=>i<=h.J.length/\dd i (λi=>dd i (mA h i))=true) (λi=>h.J.length - i) 0 ?_ ⟨W0 _,rfl⟩ λi g=>?_
 ·exact wB
 obtain⟨g,C⟩:=g;by_cases o:i<h.J.length
 ·have e:=au o
  have W:(h.J.take i).length=i:=ψ
  repeat'(first|refine gE ?_|(conv=>whnf);first|with_reducible refine CD (aa e) ?_|refine CY i rfl (by simp;omega) (λr T=>by obtain⟨z,-,rfl⟩:=O4.1 T;rfl) (C4 ..) ?_)
  (conv=>whnf)
  refine CJ (ι:=Nat) (λj=>[(1,.H .box (ac.enc .V h)),(14,.H .box (aA.enc .V (nth h.J i))),(136,.H .one (cA .V h.J)),(137,.H .one [I (h.J.length)]),(138,.H .one [I ((i:Nat):Int)]),(146,.H .one (cA .V (h.J.take i))),(147,.H .one [I ((h.J.take i).length)]),(148,.H .one [I ((j:Nat):Int)])]) (λj=>j<=(h.J.take i).length/\dd j (mA h i)=true) (λj=>(h.J.take i).length - j) 0 ?_ ⟨W0 _,rfl⟩ λj hj=>?_
  ·exact wB
  obtain⟨hj,X⟩:=hj;by_cases lj:j<(h.J.take i).length
  ·have hy:=au lj
   have he:nth (h.J.take i) j=nth h.J j:=bn (by grind [au]);rw[he]at hy;have w:=zB (nth h.J i) (nth h.J j);cases Y:meshable (nth h.J i) (nth h.J j)<;>rw[Y]at w
   all_goals
    repeat'(first|refine gE ?_|(conv=>whnf);first|with_reducible (first|refine CD (aa hy) ?_|refine Bf.E (λa=>?_) (λa=>?_))|refine C8 (lA (tbl h) _ d) ?_|refine C8 w ?_)
    all_goals first
     | exact X0 (λz=>[B z]) ((by symm;exact cz o (cz (i:=j) ω (by unfold mA;rw[Y];grind))))
     | ((conv=>whnf);refine CE (j+1) ⟨ω,bU X (by unfold mA;rw[Y];grind)⟩ ω ?_;(exact wB))
  obtain rfl:j=(h.J.take i).length:=ω
  rw[W]at X
  repeat'(first|refine gE ?_|fail)
  ((conv=>whnf);refine CE (i+1) ⟨ω,bU C X⟩ ω ?_;(exact wB))
 obtain rfl:i=h.J.length:=ω
 repeat'(first|refine gE ?_|fail)
 exact X0 (λz=>[B z]) ((by grind [oO]))
set_option maxHeartbeats 8000000
def oU[Inhabited α](pr:α->Bool)(xs:List α):cW pr xs = -1\/∃n,n<xs.length/\cW pr xs=(n:Nat)/\pr (nth xs n)=true:=by
 unfold cW;cases h:xs.findIdx? pr with
 | none=>exact .inl rfl
 | some i=>
  obtain⟨a,b,-⟩:=C7.1 h;exact .inr ⟨i,a,rfl,by rw[bn (O2 a)];exact b⟩
def FV(a:i<h.J.length)(b:k<(aU h (nth h.J i).Q).length)(c:mr h i (nth (aU h (nth h.J i).Q) k)=false):ve h=false:=by
 unfold ve;exact cz a (gI (au b) c)
theorem Dw(h:ac)(j:d9 h.J)(c:xF h):zzA 212 false [.val (some 24) (ac.enc .V h)] .one [B (ve h)]:=by
 have l:=j.1;have E:eX h<=1048576:=c.1;refine fO 55 [(4,8,[14,15,16,17,18,19,20,21]),(8,6,[28,29,30,31,32,33]),(9,21,[34,35,36,37,38,39,40,41,42,43,44,45,46,47,48,49,50,51,52,53,54])] Tryz.func212 rfl ?_
 repeat'(first|refine gP ?_|fail)
 (conv=>whnf)
 refine CJ (ι:=Nat) (λi=>[(1,.H .box (ac.enc .V h)),(3,.H .one [I ((i:Nat):Int)])]) (λi=>i<=h.J.length/\dd i (λi=>(aU h (nth h.J i).Q).all (mr h i))=true) (λi=>h.J.length - i) 0 ?_ ⟨W0 _,rfl⟩ λi w=>?_
 ·exact wB
 obtain⟨w,F⟩:=w;by_cases o:i<h.J.length
 ·have q:=au o
  have G:=gg h (nth h.J i).Q
  repeat'(first|refine gE ?_|(conv=>whnf);first|with_reducible refine CD (aa q) ?_|refine C8 (ik h _ c) ?_)
  (conv=>whnf)
  refine CJ (ι:=Nat) (λk=>[(1,.H .box (ac.enc .V h)),(3,.H .one [I ((i:Nat):Int)]),(4,.H .one (aH .own (aU h (nth h.J i).Q))),(5,.H .one [I ((k:Nat):Int)])]) (λk=>k<=(aU h (nth h.J i).Q).length/\((aU h (nth h.J i).Q).take k).all (mr h i)=true) (λk=>(aU h (nth h.J i).Q).length - k) (0) ?_ ψ λk y=>?_
  ·exact wB
  obtain⟨y,H⟩:=y;by_cases r:k<(aU h (nth h.J i).Q).length
  ·have d:=au r
   have a:=jP h (nth (aU h (nth h.J i).Q) k) l;rcases oU (mw (nth (aU h (nth h.J i).Q) k)) h.J with g|⟨n,J,g,-⟩
   ·rw[show gJ h (nth (aU h (nth h.J i).Q) k) = -1 from g]at a
    have t:mr h i (nth (aU h (nth h.J i).Q) k)=false:=by grind [mr,gJ]
    repeat'(first|refine gE ?_|(conv=>whnf);first|with_reducible (first|refine CD (aa q) ?_|refine CD (aa d) ?_|refine Bf.D (λb=>?_) (λb=>?_)|refine Bf.N (λb=>?_) (λb=>?_))|refine CH rfl (aa d) rfl ?_|refine C8 a ?_)
    all_goals first
     | exact X0 (λz=>[B z]) ((FV o r t).symm)
     |(exfalso;omega)
   rw[show gJ h (nth (aU h (nth h.J i).Q) k)=(n:Nat) from g]at a;have K:=au J;have C:=my (nth h.J i) (nth h.J n);have e:mr h i (nth (aU h (nth h.J i).Q) k)=(decide ((n:Int)=(i:Nat)) || meshable (nth h.J i) (nth h.J n)):=by
    unfold mr;rw[show gJ h (nth (aU h (nth h.J i).Q) k)=(n:Nat) from g,O0 (p:=(0:Int)<=(n:Nat)) ω];simp
   cases u:meshable (nth h.J i) (nth h.J n)<;>rw[u]at C
   all_goals
    repeat'(first|refine gE ?_|(conv=>whnf);first|with_reducible (first|refine CD (aa q) ?_|refine CD (aa K) ?_|refine CD (aa d) ?_|refine Bf.D (λb=>?_) (λb=>?_)|refine Bf.N (λb=>?_) (λb=>?_))|refine CH rfl (aa d) rfl ?_|refine C8 a ?_|refine C8 C ?_)
    all_goals first
     | exact X0 (λz=>[B z]) ((FV o r (by rw[e,u];grind)).symm)
     | ((conv=>whnf);refine CE (k+1) ⟨ω,cV d H (by rw[e,u];grind)⟩ ω ?_;(exact wB))
     |(exfalso;omega)
  repeat'(first|refine gE ?_|fail)
  ((conv=>whnf);refine CE (i+1) ⟨ω,bU F ψ⟩ ω ?_;(exact wB))
 obtain rfl:i=h.J.length:=ω
 repeat'(first|refine gE ?_|fail)
 exact X0 (λz=>[B z]) ((by grind [ve]))
def Km(j:cE)(b:cE.sml j):zzA 217 false [.val (some 5) (cE.enc .V j)] .one [B (sM j)]:=by
 have c:j.X.T.length<=1048576:=b;refine fO 30 [] Tryz.func217 rfl ?_
 repeat'(first|refine gP ?_|(conv=>whnf);first|with_reducible (first|refine Bf.E (λa=>?_) (λa=>?_)|refine Bf.D (λa=>?_) (λa=>?_)))
 all_goals exact X0 (λz=>[B z]) ((by unfold sM;first|(symm;exact U0 ω)|(rw[Y4,beq_iff_eq,C0];omega)))
theorem nu(sp:List aA)(la:List aD)(a:Int):((denotes sp la a).b5=1->0<=(denotes sp la a).c3/\(denotes sp la a).c3.toNat<sp.length)/\((denotes sp la a).b5=3->0<=(denotes sp la a).c3/\(denotes sp la a).c3.toNat<la.length):=by grind [C7,denotes,qp]
theorem Hn(h:ac)(a c:Int)(d:d9 h.J)(e:dM h.M)(b:bq h.J h.M=true)(k:ng a):zzA 363 false [.val (some 24) (ac.enc .V h),.val none [I a],.val none [I c]] .one [B (du h a c)]:=by
 have j:=nK h.J h.M a d e b k;obtain⟨g,-⟩:=nu h.J h.M a;unfold du;generalize denotes h.J h.M a=w at j g |-;refine fO 37 [] Tryz.func363 rfl ?_
 repeat'(first|refine gP ?_|(conv=>whnf);first|with_reducible (first|refine Bf.D (λi=>?_) (λi=>?_)|refine Bf.E (λi=>?_) (λi=>?_))|refine C8 j ?_|refine CN (g (by assumption)).1 (aa (au (g (by assumption)).2)) ?_)
 all_goals exact X0 (λz=>[B z]) (ψ)
theorem AI(h:ac)(o:bt)(w:j8)(a:denotes h.J h.M o.Addr=w):k7 h o=(decide (w.c4=0)&&((decide (w.b5=1)&&decide ((nth h.J w.c3.toNat).d=aL o.q)) || (decide (w.b5=3)&&decide ((nth h.M w.c3.toNat).q=o.q)))):=by grind [k7]
def js(a:i<h.O.length)(b:objAt (IntKind.i64.wrap (h.b - 1)) h i=false):gp h=false:=cz a b
theorem Jf(h1:io a h i=false):objAt a h i=false:=by grind [objAt]
theorem Jv(h1:(h.O.take i).any (lc (nth h.O i).Id)=true):objAt a h i=false:=by grind [objAt]
theorem HQ(h1:k7 h (nth h.O i)=false):objAt a h i=false:=by grind [objAt]
theorem Bb(h1:io a h i=true)(b:(h.O.take i).any (lc (nth h.O i).Id)=false)(c:k7 h (nth h.O i)=true):objAt a h i=true:=by grind [objAt]
theorem GN(h:ac)(l:d9 h.J)(n:dM h.M)(g:bq h.J h.M=true)(K:h.O.length<=1048576)(L:h.S.length<=1048576)(H:∀o∈h.O,ng o.Addr):zzA 215 false [.val (some 24) (ac.enc .V h)] .one [B (gp h)]:=by
 refine fO 117 [(5,33,[21,22,23,24,25,26,27,28,29,30,31,32,33,34,35,36,37,38,39,40,41,42,43,44,45,46,47,48,49,50,51,52,53]),(10,9,[59,60,61,62,63,64,65,66,67]),(13,16,[75,76,77,78,79,80,81,82,83,84,85,86,87,88,89,90]),(14,15,[91,92,93,94,95,96,97,98,99,100,101,102,103,104,105])] Tryz.func215 rfl ?_
 repeat'(first|refine gP ?_|fail)
 (conv=>whnf)
 refine CJ (ι:=Nat) (λi=>[(1,.H .box (ac.enc .V h)),(3,.H .one [I ((i:Nat):Int)])]) (λi=>i<=h.O.length/\dd i (objAt (IntKind.i64.wrap (h.b - 1)) h)=true) (λi=>h.O.length - i) 0 ?_ ⟨W0 _,rfl⟩ λi t=>?_
 ·exact wB
 obtain⟨t,u⟩:=t;by_cases e:i<h.O.length
 ·have y:=au e
  have C:=nK h.J h.M (nth h.O i).Addr l n g (H _ (ar e));obtain⟨p,q⟩:=nu h.J h.M (nth h.O i).Addr;have b:=AI h (nth h.O i) _ rfl;generalize denotes h.J h.M (nth h.O i).Addr=w at C p q b;by_cases c:io (IntKind.i64.wrap (h.b - 1)) h i=true
  ·have a:=c
   unfold io at a;rw[C0]at a
   repeat'(first|refine gE ?_|(conv=>whnf);first|with_reducible (first|refine CD (aa y) ?_|refine Bf.D (λd=>?_) (λd=>?_))|refine CN ω (aa (gr ω e)) ?_|refine C8 (aJ _ _ _) ?_|refine CM rfl ?_)
   all_goals
    (conv=>whnf)
    refine CJ (ι:=Nat) (λk=>[(1,.H .box (ac.enc .V h)),(3,.H .one [I ((i:Nat):Int)]),(4,.H .box (bt.enc .V (nth h.O i))),(5,.H .one [I ((k:Nat):Int)])]) (λk=>k<=i/\(h.O.take k).any (lc (nth h.O i).Id)=false) (λk=>i - k) (0) ?_ (⟨W0 _,rfl⟩) λk F=>?_
    ·exact wB
    obtain⟨F,G⟩:=F;by_cases J:k<i
    ·have r:=au (xs:=h.O) (i:=k) ω
     repeat'(first|refine gE ?_|(conv=>whnf);first|with_reducible (first|refine CD (aa r) ?_|refine Bf.E (λd=>?_) (λd=>?_)))
     all_goals first
      | exact X0 (λz=>[B z]) ((js e (Jv (Dj (i:=k) (by rw[List.getElem?_take_of_lt J];exact r) (O0 (by assumption))))).symm)
      | ((conv=>whnf);refine CE (k+1) ⟨ω,xy r G (U0 (by assumption))⟩ ω ?_;(exact wB))
    obtain rfl:k=i:=ω
    repeat'(first|refine gE ?_|(conv=>whnf);first|with_reducible (first|refine Bf.D (λd=>?_) (λd=>?_)|refine Bf.E (λd=>?_) (λd=>?_)|refine Bf.N (λd=>?_) (λd=>?_))|refine C8 C ?_|refine CN (p (by assumption)).1 (aa (au (p (by assumption)).2)) ?_|refine CN (q (by assumption)).1 (aa (au (q (by assumption)).2)) ?_|refine C8 (kM _) ?_)
    all_goals first
     | exact X0 (λz=>[B z]) ((js e (HQ (by rw[b];grind))).symm)
     | ((conv=>whnf);refine CE (k+1) ⟨ω,bU u (Bb c G (by rw[b];grind))⟩ ω ?_;(exact wB))
     |(exfalso;omega)
  have j:io (IntKind.i64.wrap (h.b - 1)) h i=false:=by simpa using c
  have a:=j;unfold io at a;rw[X4]at a
  repeat'(first|refine gE ?_|(conv=>whnf);first|with_reducible (first|refine CD (aa y) ?_|refine Bf.D (λd=>?_) (λd=>?_))|refine CN ω (aa (gr ω e)) ?_|refine C8 (aJ _ _ _) ?_|refine CM rfl ?_)
  all_goals first
   | exact X0 (λz=>[B z]) ((js e (Jf j)).symm)
   |(exfalso;omega)
 obtain rfl:i=h.O.length:=ω
 repeat'(first|refine gE ?_|fail)
 exact X0 (λz=>[B z]) ((show true=gp h from u.symm))
theorem qf(o a:bt):zzA 234 false [.val (some 4) (bt.enc .V o),.ptr (bt.enc .V a)] .one [B (lc a.Id o)]:=by
 refine fO 9 [] Tryz.func234 rfl ?_
 repeat'(first|refine gP ?_|fail)
 grind [lc]
theorem EL(h:ac)(n:d9 h.J)(o:dM h.M)(J:h.O.length<=1048576)(K:h.S.length<=1048576):zzA 81 false [.val (some 24) (ac.enc .V h)] .one [B (gp h)]:=by
 refine fO 105 [(4,33,[16,17,18,19,20,21,22,23,24,25,26,27,28,29,30,31,32,33,34,35,36,37,38,39,40,41,42,43,44,45,46,47,48]),(9,16,[62,63,64,65,66,67,68,69,70,71,72,73,74,75,76,77]),(10,15,[78,79,80,81,82,83,84,85,86,87,88,89,90,91,92])] Tryz.func81 rfl ?_
 repeat'(first|refine gP ?_|fail)
 (conv=>whnf)
 refine CJ (ι:=Nat) (λi=>[(1,.H .box (ac.enc .V h)),(9,.H .one (nA .V h.O)),(10,.H .one [I (h.O.length)]),(11,.H .one [I ((i:Nat):Int)])]) (λi=>i<=h.O.length/\dd i (objAt (IntKind.i64.wrap (h.b - 1)) h)=true) (λi=>h.O.length - i) 0 ?_ ⟨W0 _,rfl⟩ λi F=>?_
 ·exact wB
 obtain⟨F,G⟩:=F;by_cases g:i<h.O.length
 ·have p:=au g
  have H:=th h.J h.M (nth h.O i).Addr n o;obtain⟨q,t⟩:=nu h.J h.M (nth h.O i).Addr;have b:=AI h (nth h.O i) _ rfl;generalize denotes h.J h.M (nth h.O i).Addr=w at H q t b;have j:=tN (h.O.take i) (lc (nth h.O i).Id) ψ;by_cases c:io (IntKind.i64.wrap (h.b - 1)) h i=true
  ·have a:=c
   unfold io at a;rw[C0]at a;cases d:(h.O.take i).any (lc (nth h.O i).Id)<;>rw[d]at j
   ·repeat'(first|refine gE ?_|(conv=>whnf);first|with_reducible (first|refine CD (aa p) ?_|refine Bf.D (λe=>?_) (λe=>?_)|refine Bf.E (λe=>?_) (λe=>?_)|refine Bf.N (λe=>?_) (λe=>?_))|refine CN ω (aa (gr ω g)) ?_|refine C8 (aO _ _ _) ?_|refine CY i rfl (by simp;omega) (λr u=>by obtain⟨z,-,rfl⟩:=O4.1 u;rfl) (C4 ..) ?_|refine Cq.mk (Gu (some 4) (bt.enc .V) (lc (nth h.O i).Id) (h.O.take i)) (qf default (nth h.O i)).has (λL k rcs C=>by obtain⟨y,-,rfl,rfl,rfl⟩:=C;exact qf y (nth h.O i)) ?_|refine C8 j ?_|refine C8 H ?_|refine CN (q (by assumption)).1 (aa (au (q (by assumption)).2)) ?_|refine CN (t (by assumption)).1 (aa (au (t (by assumption)).2)) ?_|refine C8 (tp _) ?_|refine CM rfl ?_)
    all_goals first
     | exact X0 (λz=>[B z]) ((js g (HQ (by rw[b];grind))).symm)
     | ((conv=>whnf);refine CE (i+1) ⟨ω,bU G (Bb c d (by rw[b];grind))⟩ ω ?_;(exact wB))
     |(exfalso;omega)
   repeat'(first|refine gE ?_|(conv=>whnf);first|with_reducible (first|refine CD (aa p) ?_|refine Bf.D (λe=>?_) (λe=>?_))|refine CN ω (aa (gr ω g)) ?_|refine C8 (aO _ _ _) ?_|refine CY i rfl (by simp;omega) (λr u=>by obtain⟨z,-,rfl⟩:=O4.1 u;rfl) (C4 ..) ?_|refine Cq.mk (Gu (some 4) (bt.enc .V) (lc (nth h.O i).Id) (h.O.take i)) (qf default (nth h.O i)).has (λL k rcs C=>by obtain⟨y,-,rfl,rfl,rfl⟩:=C;exact qf y (nth h.O i)) ?_|refine C8 j ?_|refine CM rfl ?_)
   all_goals first
    | exact X0 (λz=>[B z]) ((js g (Jv d)).symm)
    |(exfalso;omega)
  have l:io (IntKind.i64.wrap (h.b - 1)) h i=false:=by simpa using c
  have a:=l;unfold io at a;rw[X4]at a
  repeat'(first|refine gE ?_|(conv=>whnf);first|with_reducible (first|refine CD (aa p) ?_|refine Bf.D (λe=>?_) (λe=>?_))|refine CN ω (aa (gr ω g)) ?_|refine C8 (aO _ _ _) ?_|refine CM rfl ?_)
  all_goals first
   | exact X0 (λz=>[B z]) ((js g (Jf l)).symm)
   |(exfalso;omega)
 obtain rfl:i=h.O.length:=ω
 repeat'(first|refine gE ?_|fail)
 exact X0 (λz=>[B z]) ((show true=gp h from G.symm))
set_option maxHeartbeats 8000000
theorem Ld(h:kg sp la n=true):lS sp la (n+1)=lS sp la n++[(n:Int)]:=by grind [List.range_succ,lS]
theorem Mt(h:kg sp la n=false):lS sp la (n+1)=lS sp la n:=by grind [List.range_succ,lS]
theorem AH(sp:List aA)(la:List aD)(n:Nat):(lS sp la n).length<=n:=by grind [lS]
theorem sO{w:j8}(a:denotes sp la (n:Nat)=w):kg sp la n=(decide (w.c4=0)&&(decide (w.b5=1) || decide (w.b5=3))):=by grind [kg]
def PB(h:n<=1048576):ng (n:Nat):=⟨ω,ω⟩
theorem y7(sp:List aA)(la:List aD)(c:d9 sp)(d:dM la)(a:bq sp la=true):zzA 364 false [.val none (cA .V sp),.val none (cy .V la)] .one (aH .own (kw sp la)):=by
 have g:=mj sp la c d;rw[a]at g;refine fO 40 [] Tryz.func364 rfl ?_ (.inr (bP _))
 repeat'(first|refine gP ?_|fail)
 (conv=>whnf)
 refine CJ (ι:=Nat) (λn=>[(0,.H .one (cA .V sp)),(1,.H .one (cy .V la)),(5,.H .one (aH .own (lS sp la n))),(6,.H .one [I ((n:Nat):Int)])]) (λn=>n<=512) (λn=>512 - n) (0) ?_ (W0 _) λn o=>?_
 ·exact wB
 have i:=AH sp la n;by_cases p:n<512
 ·have h:=nK sp la (n:Nat) c d a (PB ω)
  generalize j:denotes sp la (n:Nat)=w at h;have e:=sO j
  repeat'(first|refine gE ?_|(conv=>whnf);first|with_reducible refine Bf.E (λk=>?_) (λk=>?_)|refine C8 g ?_|refine C8 h ?_|refine CU cI (λr l=>by rw[O1.1 l];rfl) (by simp[bi,eg]) (by simp;omega) (by simp only[C1];exact yJ (by simp;omega) (by decide)) rfl ?_)
  all_goals first
   |(have b:kg sp la n=true:=by rw[e];grind
     (conv=>whnf)
     refine CE (n+1) ω ω ?_;rw[Ld b]
     (repeat'(first|exact trivial|rfl|exact CL rfl (CL (X0 (C.s dQ.own) (by simp[rI])) trivial)|refine CL ?_ ?_)))
   |(have b:kg sp la n=false:=by rw[e];grind
     (conv=>whnf)
     refine CE (n+1) ω ω ?_;rw[Mt b]
     (exact wA))
 obtain rfl:n=512:=ω
 repeat'(first|refine gE ?_|(conv=>whnf);first|refine C8 g ?_)
 rfl
theorem w6(m:aN)(a:m.y.length=m.U.length):∀i,i<=m.U.length->(((flight1 m i).length+(flight2 m i).length:Nat):Int)=bA m i
 | 0,_=>rfl
 | i+1,h=>by
  have d:=w6 m a i ω;have b:=au (xs:=m.U) (i:=i) ω;have c:=au (xs:=m.y) (i:=i) ω;rw[nH b,nJ c];simp only[U3,C1];show _=bA m i+((nth m.U i).length+(nth m.y i).length);omega
theorem ss(h:bQ m=true):(aQ m).length<=30:=by grind [w6,pq,bQ]
def FH(d:aN.wf m):∀a∈aQ m,ng a:=by
 intro a b;unfold aQ at b;split at b
 ·rcases C3.1 b with h|h
  ·obtain⟨l,c,h⟩:=List.mem_flatMap.1 h
   obtain⟨p,e,rfl⟩:=O4.1 h;exact((d.1.2 l c).2 p e).2
  obtain⟨l,c,h⟩:=List.mem_flatten.1 h;exact(d.2.2 l c).2 a h
 cases b
theorem Lf(h1:h.S.all (eU h)=false):ky h=false:=by grind [ky,jC]
theorem LC(h1:h.a7.a6.all (hB h)=false):ky h=false:=by grind [ky,jC]
theorem Ll(h1:(aQ h.w).all (kD h)=false):ky h=false:=by grind [ky,jC]
theorem KK(a:i<(holders h).length)(b:nth (holders h) i∈(holders h).take i):ky h=false:=by
 have c:decide (holders h).Nodup=false:=LU (S:=(holders h).take i) (p:=nth (holders h) i) (by
   have:=au a;have e:(holders h).take i++[nth (holders h) i]=(holders h).take (i+1):=by grind [V5]
   grind) b
 grind [ky]
theorem vn(a:h.S[i]? = some c):((h.S.take (i+1)).flatMap λc=>c.a.flatten)=((h.S.take i).flatMap λc=>c.a.flatten)++c.a.flatten:=by grind [V5]
theorem y6(a:c.a[k]? = some l):(c.a.take (k+1)).flatten=(c.a.take k).flatten++l:=by grind [V5]
theorem Hl(h:ac)(hs:ac.sml h)(hw:ac.wf h)(t:bq h.J h.M=true)(w:bQ h.w=true)(W:∀c∈h.S,b6 c=true):zzA 216 false [.val (some 24) (ac.enc .V h)] .one [B (ky h)]:=by
 obtain⟨-,-,G,H,X,Y,Z,hsq,-⟩:=hs;obtain⟨-,-,-,-,-,hwc,hwm,hwq,-⟩:=hw;have hlo:h.O.length<=1048576:=X.1;have hlc:h.S.length<=1048576:=Y.1;have hlq:h.a7.a6.length<=1048576:=hsq.1;have hfl:=ss w;have hfw:=FH hwm;have y:∀a c,ng a->zzA 363 false [.val (some 24) (ac.enc .V h),.val none [I a],.val none [I c]] .one [B (du h a c)]:=λa c ha=>Hn h a c G H t ha
 refine fO 159 [(16,8,[63,64,65,66,67,68,69,70]),(22,17,[86,87,88,89,90,91,92,93,94,95,96,97,98,99,100,101,102]),(29,7,[122,123,124,125,126,127,128]),(35,8,[142,143,144,145,146,147,148,149])] Tryz.func216 rfl ?_
 repeat'(first|refine gP ?_|fail)
 (conv=>whnf)
 refine CJ (ι:=Nat × List Int) (λi=>[(1,.H .box (ac.enc .V h)),(3,.H .one (aH .own i.2)),(4,.H .one [I ((i.1:Nat):Int)])]) (λi=>i.1<=h.O.length/\i.2=(h.O.take i.1).map (·.Addr)) (λi=>h.O.length - i.1) ((0,[])) ?_ ψ λi u=>?_
 ·exact wB
 obtain⟨i,S⟩:=i;obtain⟨u,Q⟩:=u;simp only at u Q |-;have hSl:S.length=i:=ψ
 by_cases li:i<h.O.length
 ·have E:=au li
  repeat'(first|refine gE ?_|(conv=>whnf);first|with_reducible refine CD (aa E) ?_|refine CU cI (λr l=>by rw[O1.1 l];rfl) (by simp[bi,eg]) (by simp;omega) (by simp only[C1];exact yJ (by simp;omega) (by decide)) rfl ?_)
  ((conv=>whnf)
   refine CE (i+1,S++[(nth h.O i).Addr]) ⟨(by simp only;omega),(by grind [V5])⟩ (by simp only;omega) ?_
   (repeat'(first|exact trivial|rfl|exact CL rfl (CL (X0 (C.s dQ.own) (by simp[rI])) trivial)|refine CL ?_ ?_)))
 obtain rfl:i=h.O.length:=ω
 rw[C5]at Q
 repeat'(first|refine gE ?_|fail)
 (conv=>whnf)
 refine CJ (ι:=Nat × List Int) (λi=>[(1,.H .box (ac.enc .V h)),(3,.H .one (aH .own i.2)),(5,.H .one [I ((i.1:Nat):Int)])]) (λi=>i.1<=h.S.length/\i.2=S++((h.S.take i.1).flatMap λc=>c.a.flatten)/\(h.S.take i.1).all (eU h)=true/\i.2.length<=1048576+32*i.1) (λi=>h.S.length - i.1) ((0,S)) ?_ ψ λi u=>?_
 ·exact wB
 obtain⟨i,S2⟩:=i;obtain⟨hi2,n,ai,J⟩:=u;simp only at hi2 n ai J |-;by_cases li2:i<h.S.length
 ·have E:=au li2
  obtain⟨h4,h8⟩:=uO (W _ (ar li2));have hwl:=hwc.2 _ (ar li2)
  repeat'(first|refine gE ?_|(conv=>whnf);first|with_reducible refine CD (aa E) ?_)
  (conv=>whnf)
  refine CJ (ι:=Nat × List Int) (λk=>[(1,.H .box (ac.enc .V h)),(3,.H .one (aH .own k.2)),(5,.H .one [I ((i:Nat):Int)]),(6,.H .one [I ((k.1:Nat):Int)])]) (λk=>k.1<=(nth h.S i).a.length/\k.2=S2++((nth h.S i).a.take k.1).flatten/\dd k.1 (tq h (nth h.S i))=true/\k.2.length<=S2.length+8*k.1) (λk=>(nth h.S i).a.length - k.1) ((0,S2)) ?_ (⟨W0 _,by simp,rfl,by simp⟩) λk hk=>?_
  ·exact wB
  obtain⟨k,R⟩:=k;obtain⟨hk,K,ak,hb3⟩:=hk;simp only at hk K ak hb3 |-;by_cases T:k<(nth h.S i).a.length
  ·have hy:=au T
   have hl8:=h8 _ (ar T);have hwa:=(hwl.2 _ (ar T)).2
   repeat'(first|refine gE ?_|(conv=>whnf);first|with_reducible (first|refine CD (aa E) ?_|refine CD (aa hy) ?_))
   (conv=>whnf)
   refine CJ (ι:=Nat × List Int) (λj=>[(1,.H .box (ac.enc .V h)),(3,.H .one (aH .own j.2)),(5,.H .one [I ((i:Nat):Int)]),(6,.H .one [I ((k:Nat):Int)]),(7,.H .one (aH .V (nth (nth h.S i).a k))),(8,.H .one [I ((j.1:Nat):Int)])]) (λj=>j.1<=(nth (nth h.S i).a k).length/\j.2=R++(nth (nth h.S i).a k).take j.1/\((nth (nth h.S i).a k).take j.1).all (λa=>du h a (k:Nat))=true) (λj=>(nth (nth h.S i).a k).length - j.1) ((0,R)) ?_ ψ λj hj=>?_
   ·exact wB
   obtain⟨j,S4⟩:=j;obtain⟨hj,L,U⟩:=hj;simp only at hj L U |-;have hl4:S4.length=R.length+j:=ψ
   by_cases lj:j<(nth (nth h.S i).a k).length
   ·have d:=au lj
    have b:=y (nth (nth (nth h.S i).a k) j) (k:Nat) ψ;cases g:du h (nth (nth (nth h.S i).a k) j) (k:Nat)<;>rw[g]at b
    ·repeat'(first|refine gE ?_|(conv=>whnf);first|with_reducible refine CD (aa d) ?_|refine C8 b ?_)
     exact X0 (λz=>[B z]) ((Lf (gI E (by unfold eU;exact cz T (gI d g)))).symm)
    repeat'(first|refine gE ?_|(conv=>whnf);first|with_reducible refine CD (aa d) ?_|refine C8 b ?_|refine CU cI (λr l=>by rw[O1.1 l];rfl) (by simp[bi,eg]) (by simp;omega) (by show _*8<=_;simp;omega) rfl ?_)
    ((conv=>whnf)
     refine CE (j+1,S4++[nth (nth (nth h.S i).a k) j]) ⟨(by simp only;omega),(by grind [V5]),cV d U g⟩ (by simp only;omega) ?_
     (repeat'(first|exact trivial|rfl|exact CL rfl (CL (X0 (C.s dQ.own) (by simp[rI])) trivial)|refine CL ?_ ?_)))
   obtain rfl:j=(nth (nth h.S i).a k).length:=ω
   rw[C5]at L U
   repeat'(first|refine gE ?_|fail)
   ((conv=>whnf);refine CE (k+1,S4) ⟨(by simp only;omega),(by grind [y6]),bU ak U,(by simp only;omega)⟩ (by simp only;omega) ?_;(exact wB))
  obtain rfl:k=(nth h.S i).a.length:=ω
  rw[C5]at K
  repeat'(first|refine gE ?_|(conv=>whnf);first|with_reducible refine CD (aa E) ?_)
  ((conv=>whnf);refine CE (i+1,R) ⟨(by simp only;omega),(by grind [vn]),cV E ai ak,(by simp only;omega)⟩ (by simp only;omega) ?_;(exact wB))
 obtain rfl:i=h.S.length:=ω
 rw[C5]at n ai
 repeat'(first|refine gE ?_|fail)
 (conv=>whnf)
 refine CJ (ι:=Nat × List Int) (λq=>[(1,.H .box (ac.enc .V h)),(3,.H .one (aH .own q.2)),(9,.H .one [I ((q.1:Nat):Int)])]) (λq=>q.1<=h.a7.a6.length/\q.2=S2++(h.a7.a6.take q.1).map (·.Addr)/\(h.a7.a6.take q.1).all (hB h)=true) (λq=>h.a7.a6.length - q.1) ((0,S2)) ?_ ψ λq M=>?_
 ·exact wB
 obtain⟨q,N⟩:=q;obtain⟨F,o,aq⟩:=M;simp only at F o aq |-;have hl5:N.length=S2.length+q:=ψ
 by_cases V:q<h.a7.a6.length
 ·have d:=au V
  have b:=y (nth h.a7.a6 q).Addr (nth h.a7.a6 q).d (hwq.2.2 _ (ar V)).1;cases g:du h (nth h.a7.a6 q).Addr (nth h.a7.a6 q).d<;>rw[g]at b
  ·repeat'(first|refine gE ?_|(conv=>whnf);first|with_reducible refine CD (aa d) ?_|refine C8 b ?_)
   exact X0 (λz=>[B z]) ((LC (gI d g)).symm)
  repeat'(first|refine gE ?_|(conv=>whnf);first|with_reducible refine CD (aa d) ?_|refine C8 b ?_|refine CU cI (λr l=>by rw[O1.1 l];rfl) (by simp[bi,eg]) (by simp;omega) (by show _*8<=_;simp;omega) rfl ?_)
  ((conv=>whnf)
   refine CE (q+1,N++[(nth h.a7.a6 q).Addr]) ⟨(by simp only;omega),(by grind [V5]),cV d aq g⟩ (by simp only;omega) ?_
   (repeat'(first|exact trivial|rfl|exact CL rfl (CL (X0 (C.s dQ.own) (by simp[rI])) trivial)|refine CL ?_ ?_)))
 obtain rfl:q=h.a7.a6.length:=ω
 rw[C5]at o aq
 repeat'(first|refine gE ?_|(conv=>whnf);first|refine C8 (zQ h.w Z) ?_)
 (conv=>whnf)
 refine CJ (ι:=Nat × List Int) (λq=>[(1,.H .box (ac.enc .V h)),(3,.H .one (aH .own q.2)),(10,.H .one (aH .own (aQ h.w))),(11,.H .one [I ((q.1:Nat):Int)])]) (λq=>q.1<=(aQ h.w).length/\q.2=N++(aQ h.w).take q.1/\((aQ h.w).take q.1).all (kD h)=true) (λq=>(aQ h.w).length - q.1) ((0,N)) ?_ ψ λq M=>?_
 ·exact wB
 obtain⟨q,e⟩:=q;obtain⟨F,p,aq6⟩:=M;simp only at F p aq6 |-;have hl6:e.length=N.length+q:=ψ
 by_cases V:q<(aQ h.w).length
 ·have d:=au V
  have b:=y (nth (aQ h.w) q) (-1) ψ;cases g:du h (nth (aQ h.w) q) (-1)<;>rw[g]at b
  ·repeat'(first|refine gE ?_|(conv=>whnf);first|with_reducible refine CD (aa d) ?_|refine CH rfl (aa d) rfl ?_|refine C8 b ?_)
   exact X0 (λz=>[B z]) ((Ll (gI d g)).symm)
  repeat'(first|refine gE ?_|(conv=>whnf);first|with_reducible refine CD (aa d) ?_|refine CH rfl (aa d) rfl ?_|refine C8 b ?_|refine CU cI (λr l=>by rw[O1.1 l];rfl) (by simp[bi,eg]) (by simp;omega) (by show _*8<=_;simp;omega) rfl ?_)
  ((conv=>whnf)
   refine CE (q+1,e++[nth (aQ h.w) q]) ⟨(by simp only;omega),(by grind [V5]),cV d aq6 g⟩ (by simp only;omega) ?_
   (repeat'(first|exact trivial|rfl|exact CL rfl (CL (X0 (C.s dQ.own) (by simp[rI])) trivial)|refine CL ?_ ?_)))
 obtain rfl:q=(aQ h.w).length:=ω
 rw[C5]at p aq6;have O:e=holders h:=by rw[p,o,n,Q];rfl
 have hheld:jC h=true:=by grind [jC]
 have hbig:e.length<=100000000:=ω
 clear p o n Q hSl hl5 J hl6
 repeat'(first|refine gE ?_|fail)
 (conv=>whnf)
 refine Lp.fz 3 (ι:=Nat) (λi=>[(1,.H .box (ac.enc .V h)),(3,.H .one (aH .V e)),(12,.H .one [I ((i:Nat):Int)])]) (λi=>i<=e.length/\(e.take i).Nodup) (λi=>e.length - i) 0 ?_ ψ λi u=>?_
 ·(repeat'(first|exact trivial|rfl|exact CL rfl (show M4 (dJ (aH .own e)) (aH .V e) by rw[dR];exact mW _)|refine CL ?_ ?_))
 obtain⟨u,P⟩:=u;by_cases lj:i<e.length
 ·have d:=au lj
  have htl:(e.take i).length=i:=ψ
  repeat'(first|refine gE ?_|(conv=>whnf);first|with_reducible (first|refine CD (aa d) ?_|refine Bf.D (λM=>?_) (λM=>?_))|refine CY i rfl (by simp;omega) (λr l=>by obtain⟨z,-,rfl⟩:=O4.1 l;rfl) (C4 ..) ?_|refine C8 (mQ (e.take i) _ ω) ?_)
  all_goals first
   | exact X0 (λz=>[B z]) ((by rw[O]at *;exact(KK (by assumption) (by assumption)).symm))
   | ((conv=>whnf);refine CE (i+1) ⟨ω,by rw[V5,d];exact lI P (by assumption)⟩ ω ?_;(exact wB))
 obtain rfl:i=e.length:=ω
 rw[C5]at P;have hlv:=AH h.J h.M 512
 repeat'(first|refine gE ?_|(conv=>whnf);first|refine C8 (y7 h.J h.M G H t) ?_)
 exact X0 (λz=>[B z]) ((by grind [ky]))
set_option maxHeartbeats 8000000
def dL(h:ac):Bool:=(bQ h.w&&decide (h.S.length=h.w.U.length))&&gk h.a7
def gY(h:ac):Bool:=((((((nZ h&&ve h)&&dL h)&&og h)&&h.S.all b6)&&cu h)&&(gp h&&ky h))&&wt h
theorem DZ(h:ac)(X:ac.sml h)(Y:ac.wf h):zzA 73 false [.val (some 24) (ac.enc .V h)] .one [B (gY h)]:=by
 have M:=X;have O:=Y;obtain⟨u,w,b,j,P,y,C,E,F⟩:=X;obtain⟨-,-,-,-,Q,hwc,hwm,hwq,-⟩:=Y;have l:xF h:=u.1.2;have hpn:eX h<=1048576:=l.1;have R:h.O.length<=1048576:=P.1;have S:h.S.length<=1048576:=y.1;have hlq:h.a7.a6.length<=1048576:=E.1;have hlb:h.w.U.length<=1048576:=C.1.1;have d:=mz h.G u;have e:=m9 (eX h) h.j ω w;have g:=mj h.J h.M b j;have r:=Dw h b l;have G:=lY h.w C;have T:=pd h.a7 E;cases Z:aF h.G<;>rw[Z]at d
 ·refine fO 150 [(8,10,[67,68,69,70,71,72,73,74,75,76])] Tryz.func73 rfl ?_
  repeat'(first|refine gP ?_|(conv=>whnf);first|with_reducible refine Bf.N (λa=>?_) (λa=>?_)|refine C8 d ?_)
  all_goals first
   | exact X0 (λz=>[B z]) ((by unfold gY nZ;rw[Z];simp))
   |(exfalso;omega)
 cases e2:bC (eX h) h.j<;>rw[e2]at e
 ·refine fO 150 [(8,10,[67,68,69,70,71,72,73,74,75,76])] Tryz.func73 rfl ?_
  repeat'(first|refine gP ?_|(conv=>whnf);first|with_reducible refine Bf.N (λa=>?_) (λa=>?_)|refine C8 d ?_|refine C8 e ?_)
  all_goals first
   | exact X0 (λz=>[B z]) ((by unfold gY nZ;rw[e2];simp))
   |(exfalso;omega)
 cases H:bq h.J h.M<;>rw[H]at g
 ·refine fO 150 [(8,10,[67,68,69,70,71,72,73,74,75,76])] Tryz.func73 rfl ?_
  repeat'(first|refine gP ?_|(conv=>whnf);first|with_reducible refine Bf.N (λa=>?_) (λa=>?_)|refine C8 d ?_|refine C8 e ?_|refine C8 g ?_)
  all_goals first
   | exact X0 (λz=>[B z]) ((by unfold gY nZ;rw[H];simp))
   |(exfalso;omega)
 have n:=Fc h b j l w H;cases e4:pages0 h<;>rw[e4]at n
 ·refine fO 150 [(8,10,[67,68,69,70,71,72,73,74,75,76])] Tryz.func73 rfl ?_
  repeat'(first|refine gP ?_|(conv=>whnf);first|with_reducible refine Bf.N (λa=>?_) (λa=>?_)|refine C8 d ?_|refine C8 e ?_|refine C8 g ?_|refine C8 n ?_)
  all_goals first
   | exact X0 (λz=>[B z]) ((by unfold gY nZ;rw[e4];simp))
   |(exfalso;omega)
 cases e5:ve h<;>rw[e5]at r
 ·refine fO 150 [(8,10,[67,68,69,70,71,72,73,74,75,76])] Tryz.func73 rfl ?_
  repeat'(first|refine gP ?_|(conv=>whnf);first|with_reducible refine Bf.N (λa=>?_) (λa=>?_)|refine C8 d ?_|refine C8 e ?_|refine C8 g ?_|refine C8 n ?_|refine C8 r ?_)
  all_goals first
   | exact X0 (λz=>[B z]) ((by unfold gY ;rw[e5];simp))
   |(exfalso;omega)
 cases U:bQ h.w<;>rw[U]at G
 ·refine fO 150 [(8,10,[67,68,69,70,71,72,73,74,75,76])] Tryz.func73 rfl ?_
  repeat'(first|refine gP ?_|(conv=>whnf);first|with_reducible refine Bf.N (λa=>?_) (λa=>?_)|refine C8 d ?_|refine C8 e ?_|refine C8 g ?_|refine C8 n ?_|refine C8 r ?_|refine C8 G ?_)
  all_goals first
   | exact X0 (λz=>[B z]) ((by unfold gY dL;rw[U];simp))
   |(exfalso;omega)
 by_cases V:h.S.length=h.w.U.length;rotate_left
 ·refine fO 150 [(8,10,[67,68,69,70,71,72,73,74,75,76])] Tryz.func73 rfl ?_
  repeat'(first|refine gP ?_|(conv=>whnf);first|with_reducible refine Bf.N (λa=>?_) (λa=>?_)|refine C8 d ?_|refine C8 e ?_|refine C8 g ?_|refine C8 n ?_|refine C8 r ?_|refine C8 G ?_)
  all_goals first
   | exact X0 (λz=>[B z]) ((by unfold gY dL;rw[U0 V];simp))
   |(exfalso;omega)
 cases e7:gk h.a7<;>rw[e7]at T
 ·refine fO 150 [(8,10,[67,68,69,70,71,72,73,74,75,76])] Tryz.func73 rfl ?_
  repeat'(first|refine gP ?_|(conv=>whnf);first|with_reducible refine Bf.N (λa=>?_) (λa=>?_)|refine C8 d ?_|refine C8 e ?_|refine C8 g ?_|refine C8 n ?_|refine C8 r ?_|refine C8 G ?_|refine C8 T ?_)
  all_goals first
   | exact X0 (λz=>[B z]) ((by unfold gY dL;rw[e7];simp))
   |(exfalso;omega)
 have hlay:nZ h=true:=by grind [nZ]
 have hmc:dL h=true:=by grind [dL]
 refine fO 150 [(8,10,[67,68,69,70,71,72,73,74,75,76])] Tryz.func73 rfl ?_
 repeat'(first|refine gB ?_|(conv=>whnf);first|with_reducible refine Bf.N (λa=>?_) (λa=>?_)|refine C8 d ?_|refine C8 e ?_|refine C8 g ?_|refine C8 n ?_|refine C8 r ?_|refine C8 G ?_|refine C8 T ?_)
 all_goals try(exfalso;omega)
 (conv=>whnf)
 refine CJ (ι:=Nat) (λi=>[(1,.H .box (ac.enc .V h)),(3,.H .one [I ((i:Nat):Int)])]) (λi=>i<=h.a7.a6.length/\(h.a7.a6.take i).all (λx=>decide (x.b7<=h.b1))=true) (λi=>h.a7.a6.length - i) (0) ?_ ψ λi hi=>?_
 ·exact wB
 obtain⟨hi,ai⟩:=hi;by_cases li:i<h.a7.a6.length
 ·have p:=au li
  repeat'(first|refine gE ?_|(conv=>whnf);first|with_reducible (first|refine CD (aa p) ?_|refine Bf.D (λa=>?_) (λa=>?_)))
  all_goals first
   | exact X0 (λz=>[B z]) ((by unfold gY og;rw[gI p (U0 ω)];simp))
   | ((conv=>whnf);refine CE (i+1) ⟨ω,cV p ai (O0 ω)⟩ ω ?_;(exact wB))
 have hsi:og h=true:=ns ω ai
 repeat'(first|refine gE ?_|fail)
 (conv=>whnf)
 refine CJ (ι:=Nat) (λk=>[(1,.H .box (ac.enc .V h)),(4,.H .one [I ((k:Nat):Int)])]) (λk=>k<=h.S.length/\(h.S.take k).all b6=true) (λk=>h.S.length - k) (0) ?_ ψ λk hk=>?_
 ·exact wB
 obtain⟨hk,ak⟩:=hk;by_cases lk:k<h.S.length
 ·have p:=au lk
  have W:=ni (nth h.S k) (y.2 _ (ar lk));cases e8:b6 (nth h.S k)<;>rw[e8]at W
  ·repeat'(first|refine gE ?_|(conv=>whnf);first|with_reducible refine CD (aa p) ?_|refine C8 W ?_)
   exact X0 (λz=>[B z]) ((by grind [gY]))
  repeat'(first|refine gE ?_|(conv=>whnf);first|with_reducible refine CD (aa p) ?_|refine C8 W ?_)
  ((conv=>whnf);refine CE (k+1) ⟨ω,cV p ak e8⟩ ω ?_;(exact wB))
 have hca:h.S.all b6=true:=ns ω ak;have q:=GN h b j H R S (λo ho=>(Q.2 o ho).2.1);have c10:=Hl h M O H U ψ;have c11:=Km h.Y F;have c12:=y9 h.Y F;have c13:=jP h h.Y.X.a3 b.1;have c14:=jP h h.Y.X.a1 b.1;by_cases hn:cu h=true;rotate_left
 ·have J:cu h=false:=by simpa using hn
  have c:=J;unfold cu at c;rw[X4]at c;cases L:gp h<;>rw[L]at q<;>cases e10:ky h<;>rw[e10]at c10
  all_goals
   repeat'(first|refine gE ?_|(conv=>whnf);first|with_reducible refine Bf.D (λa=>?_) (λa=>?_)|refine C8 (aJ _ _ _) ?_|refine C8 q ?_|refine C8 c10 ?_)
   all_goals first
    | exact X0 (λz=>[B z]) ((by unfold gY;rw[J];simp))
    |(exfalso;omega)
 have c:=hn;unfold cu at c;rw[C0]at c;cases L:gp h<;>rw[L]at q
 ·repeat'(first|refine gE ?_|(conv=>whnf);first|with_reducible refine Bf.D (λa=>?_) (λa=>?_)|refine C8 (aJ _ _ _) ?_|refine C8 q ?_)
  all_goals first
   | exact X0 (λz=>[B z]) ((by unfold gY;rw[L];simp))
   |(exfalso;omega)
 cases e10:ky h<;>rw[e10]at c10
 ·repeat'(first|refine gE ?_|(conv=>whnf);first|with_reducible refine Bf.D (λa=>?_) (λa=>?_)|refine C8 (aJ _ _ _) ?_|refine C8 q ?_|refine C8 c10 ?_)
  all_goals first
   | exact X0 (λz=>[B z]) ((by unfold gY;rw[e10];simp))
   |(exfalso;omega)
 have K:gY h=wt h:=by grind [gY]
 rw[K];unfold wt;cases em:h.u
 ·repeat'(first|refine gE ?_|(conv=>whnf);first|with_reducible refine Bf.D (λa=>?_) (λa=>?_)|refine C8 (aJ _ _ _) ?_|refine C8 q ?_|refine C8 c10 ?_|refine C8 c11 ?_|refine Bf.f em ?_)
  grind
 cases e12:jL h.Y<;>rw[e12]at c12
 all_goals
  repeat'(first|refine gE ?_|(conv=>whnf);first|with_reducible (first|refine Bf.D (λa=>?_) (λa=>?_)|refine Bf.D (λa=>?_) (λa=>?_))|refine C8 (aJ _ _ _) ?_|refine C8 q ?_|refine C8 c10 ?_|refine C8 c12 ?_|refine C8 c13 ?_|refine C8 c14 ?_|refine Bf.t em ?_)
  all_goals first
   | exact X0 (λz=>[B z]) (ψ)
   |(exfalso;omega)
end Go.Proofs.YtiopgblagimpmaaGreat.Ab
