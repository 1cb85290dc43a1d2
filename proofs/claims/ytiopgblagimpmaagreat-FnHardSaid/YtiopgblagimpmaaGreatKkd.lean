/- When the parts of a heap are valid, as plain functions over its data. No condition. -/
import Derived.Test.YtiopgblagimpmaaGreatKkc
set_option linter.unusedVariables false
set_option linter.defProp false
set_option linter.unusedSimpArgs false
set_option linter.constructorNameAsVariable false
namespace Go.Proofs.YtiopgblagimpmaaGreat.Ab
section
variable{α:Type}{l:List α}{p:α->Bool}{i:Nat}{x:α}
theorem di(h:l[i]? = some x)(a:(l.take i).all p=true)(b:p x=true):(l.take (i+1)).all p=true:=by grind [X7]
theorem iA(h:l[i]? = some x)(a:p x=false):l.all p=false:=ψ
theorem po(a:l.length<=i)(b:(l.take i).all p=true):l.all p=true:=by grind [O9]
end
variable{i:Nat}{α:Type}
theorem yf{β:Type}{a:List α}{b:List β}{x:α}{y:β}(h1:a[i]? = some x)(c:b[i]? = some y):(a.zip b)[i]? = some (x,y):=ψ
def nth[Inhabited α](xs:List α)(i:Nat):α:=xs.getD i default
theorem ar[Inhabited α]{xs:List α}(h:i<xs.length):xs[i]? = some (nth xs i):=by grind [nth]
theorem bq[Inhabited α]{xs:List α}{y:α}(h:xs[i]? = some y):nth xs i=y:=by grind [nth]
theorem au[Inhabited α]{xs:List α}(h:i<xs.length):nth xs i∈xs:=Z2 (ar h)
def dv(n:Nat)(p:Nat->Bool):Bool:=(List.range n).all p
variable{n:Nat}
theorem cI{p:Nat->Bool} : dv n p=true↔∀j,j<n->p j=true:=by
 unfold dv;simp
theorem bZ{p:Nat->Bool}(h:dv n p=true)(a:p n=true):dv (n+1) p=true:=by grind [cI]
theorem cK{p:Nat->Bool}(a:i<n)(b:p i=false):dv n p=false:=by grind [cI]
theorem fG{p:Nat->Bool}(h:dv n p=true)(a:i<n):p i=true:=cI.1 h i a
def jx(u:Bool)(v:Int):Bool:=decide (0<=v/\v<=999)&&(u || decide (v=0))
def iB(r:List Int)(u:Bool):Bool:=decide (r.length=16)&&r.all (jx u)
def cY(f:aU):Bool:=decide (1<=f.T.length/\f.T.length<=32)&&(decide (f.a1.length=f.T.length)&&(f.T.zip f.a1).all λq=>iB q.1 q.2)
def j9{f:aU}{r:List Int}{u:Bool}(h1:f.T[i]? = some r)(a:f.a1[i]? = some u)(b:iB r u=false):cY f=false:=by
 unfold cY;rw[iA (p:=λq=>iB q.1 q.2) (yf h1 a) b];simp
variable{k:Nat}
theorem tV{r:List Int}{u:Bool}{v:Int}(h1:r[k]? = some v)(a:jx u v=false):iB r u=false:=by grind [iB]
theorem Gm{f:aU}(h:cY f=true):1<=f.T.length/\f.T.length<=32/\f.a1.length=f.T.length:=by grind [cY]
def lD(a:Int)(e:bm):Bool:=decide (0<=e.j/\e.j<=2/\(e.j=0->e.e=0)/\(e.j≠0->0<=e.e/\e.e<a))
def ij(t:aM)(a:Int):Bool:=dv t.K.length (λi=>lD a (nth t.K i))&&decide (1<=t.K.length/\t.K.length<=32)
def QS(t:aM)(f:Int)(i:Nat):Bool:=decide ((nth t.K i).j≠0/\(nth t.K i).e=f)
def lh(t:aM)(f:Int)(n:Nat):List Int:=((List.range n).filter (QS t f)).map λ(i:Nat)=>(i:Int)
def pagesOn(t:aM)(f:Int):List Int:=lh t f t.K.length
theorem DE{t:aM}{f:Int}(h:QS t f n=true):lh t f (n+1)=lh t f n++[(n:Int)]:=by grind [List.range_succ,lh]
theorem HE{t:aM}{f:Int}(h:QS t f n=false):lh t f (n+1)=lh t f n:=by grind [List.range_succ,lh]
theorem vC(t:aM)(f:Int)(n:Nat):(lh t f n).length<=n:=by grind [lh]
def af(t:aM)(p:Int):bm:=if 0<=p/\p<t.K.length then nth t.K p.toNat else⟨0,0⟩
def qe(m:aY)(i:Nat):Bool:=nth m.W.a1 i == decide (0<(pagesOn m.Q (i:Int)).length)
def dx(m:aY):Bool:=(cY m.W&&ij m.Q m.W.a1.length)&&dv m.W.a1.length (qe m)
def aD(k:ah):Bool:=(dv k.u.length (λi=>decide (0<=nth k.u i))&&dx k.G)&&decide (0<=k.Calls/\k.Calls<=100000/\k.u.length<=40)
def rangeIn(pages:Int)(r:aB):Bool:=decide (1<=r.a8/\r.a8<=pages/\0<=r.At/\r.At<=pages - r.a8)
def ig(pages:Int)(xs:List aB)(i:Nat):Bool:=rangeIn pages (nth xs i)&&decide (i=0\/(nth xs (i - 1)).At+(nth xs (i - 1)).a8<(nth xs i).At)
def bG(pages:Int)(xs:List aB):Bool:=dv xs.length (ig pages xs)&&decide (1<=pages/\pages<=32)
def xw(page:Int)(r:aB):Bool:=decide (r.At<=page)&&decide (page<IntKind.i64.wrap (r.At+r.a8))
def lim(k:Int):Int:=if k=0 then 65535 else if k=1 then 255 else if k=2 then 15 else if k=3 then 3 else 0
def slots(k:Int):Int:=if k=0 then 16 else if k=1 then 8 else if k=2 then 4 else if k=3 then 2 else 0
def bh(s:aA):Bool:=decide (0<=s.R/\s.R<=31/\0<=s.d/\s.d<=3/\0<=s.a9/\s.a9<=lim s.d)
def fF(n:Int):Int:=if 9<=n/\n<=1000 then(n+15) / 16 else 0
def bR(l:aE):Bool:=decide (9<=l.y/\l.y<=1000/\l.a4=(l.y+15) / 16/\0<=l.R/\l.R<=32 - l.a4)
def lpgs(l:aE)(n:Nat):List Int:=(List.range n).map λ(i:Nat)=>l.R+i
def pgs(sp:List aA)(la:List aE):List Int:=sp.map (·.R)++la.flatMap λl=>lpgs l l.a4.toNat
def bx(sp:List aA)(la:List aE):Bool:=(sp.all bh&&la.all bR)&&decide (pgs sp la).Nodup
def dq(s:aA)(a:Int):Bool:=bh s&&decide (16*s.R<=a/\a<=16*s.R+15)
def bf(b i:Int):Bool:=decide (0<=b/\0<=i/\i<=15/\b / 2 ^ i.toNat % 2=1)
def bM(l:aE)(a:Int):Bool:=bR l&&decide (16*l.R<=a/\a<=16*l.R+l.y - 1)
def csz(k:Int):Int:=if 0<=k/\k<=3 then 2 ^ k.toNat else 0
def jK(s:aA)(a:Int):Int × Int:=if dq s a then((a - 16*s.R) / csz s.d,(a - 16*s.R) % csz s.d) else(-1,-1)
def pu(i:Nat)(s:aA)(a:Int):kD:=⟨if bf s.a9 ((a - 16*s.R) / csz s.d) then 1 else 2,i,(a - 16*s.R) / csz s.d,(a - 16*s.R) % csz s.d⟩
def denotes(sp:List aA)(la:List aE)(a:Int):kD:=
 match sp.findIdx? (dq · a) with
 | some i=>pu i (nth sp i) a
 | none=>match la.findIdx? (bM · a) with
  | some i=>⟨3,i,0,a - 16*(nth la i).R⟩
  | none=>⟨0,0,0,0⟩
theorem xT{pr:α->Bool}{xs:List α}{y:α}(a:xs[i]? = some y)(b:pr y=true)(c:∀(j:Nat)(z:α),j<i->xs[j]? = some z->pr z=false):xs.findIdx? pr=some i:=by grind [I9]
theorem G0{pr:α->Bool}{xs:List α}(a:xs.length<=i)(b:∀(j:Nat)(z:α),j<i->xs[j]? = some z->pr z=false):xs.findIdx? pr=none:=
 List.findIdx?_eq_none_iff.2 λz c=>by grind [List.mem_iff_getElem?]
theorem eA{pr:α->Bool}{xs:List α}{y:α}(a:xs[i]? = some y)(b:pr y=false)(c:∀(j:Nat)(z:α),j<i->xs[j]? = some z->pr z=false):∀(j:Nat)(z:α),j<i+1->xs[j]? = some z->pr z=false:=ψ
def cV(pr:α->Bool)(xs:List α):Int:=match xs.findIdx? pr with|some i=>(i:Nat)|none=>-1
theorem dE{pr:α->Bool}{xs:List α}{y:α}(a:xs[i]? = some y)(b:pr y=true)(c:∀(j:Nat)(z:α),j<i->xs[j]? = some z->pr z=false):cV pr xs=(i:Nat):=by
 unfold cV;rw[xT a b c]
theorem gv{pr:α->Bool}{xs:List α}(a:xs.length<=i)(b:∀(j:Nat)(z:α),j<i->xs[j]? = some z->pr z=false):cV pr xs = -1:=by grind [G0,cV]
theorem lY(pr:α->Bool)(xs:List α):decide (cV pr xs≥0)=xs.any pr:=by grind [cV]
def meshable(s t:aA):Bool:=(bh s&&bh t)&&decide (s.d=t.d/\s.R≠t.R/\s.a9.toNat &&& t.a9.toNat=0)
def o6(n:Int)(p:dI):Bool:=decide (0<=p.To/\p.To<=n - 1/\0<=p.Addr)
def Tz(z:Int):Bool:=decide (0<=z)
def iF(m:aP)(i:Nat):Bool:=(nth m.V i).all (o6 m.V.length)&&(nth m.a2 i).all Tz
def bI(m:aP):Nat->Int
 | 0=>0
 | i+1=>bI m i+((nth m.V i).length+(nth m.a2 i).length)
def bT(m:aP):Bool:=(decide (1<=m.V.length/\m.V.length<=4/\m.a2.length=m.V.length)&&dv m.V.length (iF m))&&decide (bI m m.V.length<=30)
def aV(m:aP):List Int:=if bT m then(m.V.flatMap λl=>l.map (·.Addr))++m.a2.flatten else []
def fA(a:Int)(y:aT):Bool:=decide (y.Addr=a)
def lJ(xs:List aT)(i:Nat):Bool:=decide (0<=(nth xs i).d/\(nth xs i).d<=3/\0<=(nth xs i).Addr/\0<=(nth xs i).b7/\(i=0\/(nth xs (i - 1)).b7<=(nth xs i).b7))&&!(xs.take i).any (fA (nth xs i).Addr)
def quarCells(xs:List aT):Nat->Int
 | 0=>0
 | i+1=>quarCells xs i+csz (nth xs i).d
def ia(q:bS):Bool:=dv q.a6.length (lJ q.a6)&&decide (0<=q.b8/\q.b8<=500/\quarCells q.a6 q.a6.length<=q.b8)
def nv(xs:List Int)(i:Nat):Bool:=decide (0<=nth xs i/\nth xs i<=15/\(i=0\/nth xs (i - 1)<nth xs i))
def fk(p:cn):Bool:=dv p.T.length (nv p.T)&&decide (0<=p.a3/\p.a3<=31/\0<=p.a0/\p.a0<=31/\p.a3≠p.a0)
def jX(j:cz):Bool:=fk j.X&&decide (0<=j.b0/\j.b0<=5/\0<=j.b/\j.b<=j.X.T.length)
def rZ(j:cz):Bool:=decide (j.X.a3=0/\j.X.a0=0/\j.X.T.length=0/\j.b0=0/\j.b=0)
def aX(h:ac)(p:Int):List Int:=if(af h.F.G.Q p).j=0 then [] else pagesOn h.F.G.Q (af h.F.G.Q p).e
def n7(p:Int)(s:aA):Bool:=decide (s.R=p)
def ir(h:ac)(p:Int):Int:=cV (n7 p) h.J
def aL(n:Int):Int:=if n<1 then -1 else if n<=1 then 0 else if n<=2 then 1 else if n<=4 then 2 else if n<=8 then 3 else -1
open Go.RowKit
set_option maxRecDepth 20000
set_option maxHeartbeats 2000000
def aK(n lo a:Int):zzA 110 false [.val none [I n],.val none [I lo],.val none [I a]] .one [B (decide (lo<=n/\n<=a))]:=by
 refine fO 15 [] Tryz.func110 rfl ?_
 repeat'(first|refine gP ?_|with_reducible refine Bf.D (λb=>?_) (λb=>?_))
 all_goals exact C1 (λz=>[B z]) (by simp;try omega)
def aN(n lo a:Int):zzA 63 false [.val none [I n],.val none [I lo],.val none [I a]] .one [B (decide (lo<=n/\n<=a))]:=by
 refine fO 15 [] Tryz.func63 rfl ?_
 repeat'(first|refine gP ?_|with_reducible refine Bf.D (λb=>?_) (λb=>?_))
 all_goals exact C1 (λz=>[B z]) (by simp;try omega)
def gi(k:Int):zzA 232 false [.val none [I k]] .one [B (decide (0<=k/\k<=3))]:=by
 refine fO 5 [] Tryz.func232 rfl ?_
 repeat'(first|refine gP ?_|refine CB (aN k 0 3) ?_)
 rfl
theorem eM(k:Int):zzA 106 false [.val none [I k]] .one [I (csz k)]:=by
 by_cases b:0<=k/\k<=3
 ·obtain rfl|rfl|rfl|rfl:k=0\/k=1\/k=2\/k=3:=ω
  all_goals
   refine fO 8 [] Tryz.func106 rfl ?_
   repeat'(first|refine gE ?_|with_reducible refine Bf.D (λa=>?_) (λa=>?_)|refine CB (gi _) ?_|refine CQ (by decide) ?_|refine CP rfl ?_)
   exact C1 (λz=>[I z]) (by decide)
 refine fO 8 [] Tryz.func106 rfl ?_
 repeat'(first|refine gE ?_|with_reducible refine Bf.D (λa=>?_) (λa=>?_)|refine CB (gi _) ?_)
 exact C1 (λz=>[I z]) (by grind [csz])
theorem eP(k:Int):zzA 361 false [.val none [I k]] .one [I (csz k)]:=by
 by_cases b:0<=k/\k<=3
 ·obtain rfl|rfl|rfl|rfl:k=0\/k=1\/k=2\/k=3:=ω
  all_goals
   refine fO 9 [] Tryz.func361 rfl ?_
   repeat'(first|refine gE ?_|with_reducible refine Bf.D (λa=>?_) (λa=>?_)|refine CB (aK _ 0 3) ?_|refine CQ (by decide) ?_|refine CP rfl ?_)
   exact C1 (λz=>[I z]) (by decide)
 refine fO 9 [] Tryz.func361 rfl ?_
 repeat'(first|refine gE ?_|with_reducible refine Bf.D (λa=>?_) (λa=>?_)|refine CB (aK _ 0 3) ?_)
 exact C1 (λz=>[I z]) (by grind [csz])
theorem nP(xs:List Int)(a:Int)(h:xs.length<=9223372036854775807):zzA 353 false [.val none (aH .U xs),.val none [I a]] .one [B (decide (a∈xs))]:=by
 refine fO 18 [] Tryz.func353 rfl ?_
 refine ZP ?_
 refine CK (ι:=Nat) (λi=>[(0,.H .one (aH .U xs)),(1,.H .one [I a]),(5,.H .one [I (i:Nat)])]) (λi=>i<=xs.length/\a∉xs.take i) (λi=>xs.length - i) 0 ?_ ψ λi c=>?_
 ·exact wB
 obtain⟨c,d⟩:=c;by_cases b:i<xs.length
 ·obtain⟨y,e⟩ : ∃y,xs[i]? = some y:=⟨_,C3 b⟩
  repeat'(first|refine gE ?_|with_reducible refine Bf.E (λg=>?_) (λg=>?_))
  ·exact C1 (λz=>[B z]) ψ
  (conv=>whnf)
  refine CG (i+1) ⟨ω,?_⟩ ω ?_
  ·grind [X7]
  exact wB
 refine ZE ?_
 rw[O9 ω]at d;exact C1 (λz=>[B z]) ψ
set_option maxHeartbeats 4000000
def good(k:Int)(s:List Int)(a:Int):Prop:=0<=a/\a<=511/\a.tmod (csz k)=0/\a∉s
instance (k:Int) (s:List Int) (a:Int):Decidable (good k s a):=by unfold good;exact inferInstance
def tL(k:Int):List Int->List Int->Option (List Int)
 | s,[]=>some s
 | s,a::l=>if good k s a then tL k (s++[a]) l else none
def gf(k:Nat)(s l:List Int):Option (List Int):=if l.length<=8/\k<=3 then tL k s l else none
def iC:Nat->List Int->List (List Int)->Option (List Int)
 | _,s,[]=>some s
 | k,s,l::ls=>(gf k s l).bind λa=>iC (k+1) a ls
def bD(c:aF):Bool:=decide (c.Z.length=4)&&(iC 0 [] c.Z).isSome
theorem sQ(k:Int):∀(a s b:List Int),tL k s (a++b)=(tL k s a).bind λc=>tL k c b
 | [],s,b=>rfl
 | x::a,s,b=>by
  simp only[List.cons_append,tL];split
  ·exact sQ k a _ b
  rfl
theorem qp:∀(a:List (List Int))(k:Nat)(s:List Int)(b:List (List Int)),iC k s (a++b)=(iC k s a).bind λc=>iC (k+a.length) c b
 | [],k,s,b=>rfl
 | l::a,k,s,b=>by
  simp only[List.cons_append,iC,Option.bind_assoc,List.length_cons]
  congr 1;funext c
  rw[qp a (k+1) c b,show k+1+a.length=k+(a.length+1) by omega]
variable{a:Int}{l:List Int}
theorem M9{k:Int}{b s:List Int}{j:Nat}(c:l[j]? = some a)(h:tL k b (l.take j)=some s)(d:good k s a):tL k b (l.take (j+1))=some (s++[a]):=by grind [X7,sQ,tL]
theorem QK{b s:List Int}{j:Nat}(c:l[j]? = some a)(h:tL k b (l.take j)=some s)(d:¬good k s a):gf k b l=none:=by
 unfold gf;split
 all_goals grind [List.drop_eq_getElem_cons,List.take_append_drop,sQ,tL]
theorem ES{k:Int} : ∀{l s b:List Int},tL k s l=some b->b.length=s.length+l.length
 | [],s,b,h=>by grind [tL]
 | a::l,s,b,h=>by
  simp only[tL]at h;split at h
  ·have:=ES h;grind
  cases h
theorem vI{a:List (List Int)}{s:List Int}(b:a[i]? = some l)(h:iC 0 [] (a.take i)=some s):iC 0 [] (a.take (i+1))=gf i s l:=by
 have c:=(I3.1 b).1;rw[X7,b,Option.toList_some,qp,h];simp only[Option.bind_some,iC,C9,O2,Nat.min_eq_left (Nat.le_of_lt c)]
 grind
variable{c:aF}
theorem mC{s:List Int}(a:c.Z[i]? = some l)(h:iC 0 [] (c.Z.take i)=some s)(b:gf i s l=none):bD c=false:=by
 have d:=vI a h
 grind [List.take_append_drop,qp,bD]
theorem G8:∀{b:List (List Int)}{k:Nat}{s a:List Int},iC k s b=some a->a.length<=s.length+8*b.length
 | [],k,s,a,h=>by grind [iC]
 | l::b,k,s,a,h=>by
  simp only[iC]at h;unfold gf at h;split at h
  ·cases c:tL k s l with
   | none=>grind
   | some d=>
    rw[c]at h;have e:=ES c;have f:=G8 (show iC (k+1) d b=some a from h)
    grind
  cases h
def QE(h:i<=3):csz (i:Int)≠0:=by
 obtain rfl|rfl|rfl|rfl:i=0\/i=1\/i=2\/i=3:=ω
 all_goals decide
def cC : ∀r∈l.map (rI .own),r.length=1:=by
 intro r a;obtain⟨z,-,rfl⟩:=O5.1 a;rfl
theorem oA(c:aF)(t:aF.sml c):zzA 214 false [.val (some 1) (aF.enc .U c)] .one [B (bD c)]:=by
 have G:=t.1;refine fO 60 [] Tryz.func214 rfl ?_
 repeat'(first|refine gP ?_|with_reducible refine Bf.N (λe=>?_) (λe=>?_))
 ·exact C1 (λz=>[B z]) (by grind [bD])
 have H:c.Z.length=4:=ω
 (conv=>whnf)
 refine CK (ι:=Nat × List Int) (λi=>[(1,.H .box (aF.enc .U c)),(3,.H .one (aH .own i.2)),(4,.H .one [I (i.1:Nat)])]) (λi=>i.1<=4/\iC 0 [] (c.Z.take i.1)=some i.2) (λi=>4 - i.1) (0,[]) ?_ ⟨Z0 _,rfl⟩ λi k=>?_
 ·exact wB
 obtain⟨i,s⟩:=i;obtain⟨k,b⟩:=k;simp only at k b |-;have g:=G8 b;rw[O2]at g;simp only[List.length_nil]at g;by_cases u:i<4
 ·obtain⟨l,d⟩ : ∃l,c.Z[i]? = some l:=(ψ)
  have w:l.length<=1048576:=t.2 l ψ
  repeat'(first|refine gE ?_|with_reducible refine Bf.D (λe=>?_) (λe=>?_))
  ·exact C1 (λz=>[B z]) (mC d b (by grind [gf])).symm
  have E:l.length<=8:=ω
  (conv=>whnf)
  refine CK (ι:=Nat × List Int) (λj=>[(1,.H .box (aF.enc .U c)),(3,.H .one (aH .own j.2)),(4,.H .one [I (i:Nat)]),(5,.H .one [I (j.1:Nat)])]) (λj=>j.1<=l.length/\tL i s (l.take j.1)=some j.2) (λj=>l.length - j.1) (0,s) ?_ ⟨Z0 _,rfl⟩ λj n=>?_
  ·exact wB
  obtain⟨j,o⟩:=j;obtain⟨n,a⟩:=n;simp only at n a |-;have h:=ES a;rw[O2]at h;by_cases p:j<l.length
  ·obtain⟨y,q⟩ : ∃y,l[j]? = some y:=⟨_,C3 p⟩
   repeat'(first|refine gE ?_|with_reducible (first|refine Bf.D (λe=>?_) (λe=>?_)|refine Bf.N (λe=>?_) (λe=>?_))|refine CB (aK y 0 511) ?_|refine CB (eP (i:Nat)) ?_|refine CQ (QE ω) ?_|refine CU rfl ?_|refine CH (nP o y ω) ⟨⟨rfl,dH _⟩,⟨rfl,rfl⟩,trivial⟩ ?_|refine CV cC (λr F=>by rw[C2.1 F];rfl) (by simp[bn,eG]) (by simp;omega) (by simp only[O1];exact zd (by simp;omega) (by decide)) rfl ?_)
   all_goals first
    | exact C1 (λz=>[B z]) (mC d b (QK q a λ⟨J,K,L,M⟩=>by first|contradiction|omega)).symm
    | ((conv=>whnf)
       refine CG (j+1,o++[y]) ⟨(by simp only;omega),M9 q a ⟨ω,ω,(by assumption),(by assumption)⟩⟩ (by simp only;omega) ?_
       (repeat'(first|exact trivial|rfl|exact CN rfl (CN (C1 (C.s dX.own) (by simp[rI])) trivial)|refine CN ?_ ?_)))
  refine ZE ?_
  rw[O9 ω]at a;refine CG (i+1,o) ⟨(by simp only;omega),(by rw[vI d b];grind [gf])⟩ (by simp only;omega) ?_;exact wB
 refine ZE ?_
 rw[O9 ω]at b;exact C1 (λz=>[B z]) (by grind [bD])
def gF(s:List Int):List (Int × Value):=s.map λa=>(a,.bool true)
theorem oC(a:Int):∀(s:List Int),mlook (gF s) a (.bool false)=.bool (decide (a∈s))
 | []=>by simp[gF,mlook]
 | x::s=>by
  have b:=oC a s
  grind [gF,mlook]
theorem vt{a:Int} : ∀{s:List Int},a∉s->gF (s++[a])=mput (gF s) a (.bool true)
 | [],_=>rfl
 | x::s,h=>by
  simp only[List.mem_cons,not_or]at h;have b:=vt h.2
  grind [gF,mput]
theorem uT(c:aF)(p:aF.sml c):zzA 80 false [.val (some 1) (aF.enc .U c)] .one [B (bD c)]:=by
 have w:=p.1;refine fO 54 [] Tryz.func80 rfl ?_
 refine ZP ?_
 refine CK (ι:=Nat × List Int) (λi=>[(1,.H .box (aF.enc .U c)),(3,.H .one [.m (gF i.2)]),(10,.H .one (kx .U c.Z)),(11,.H .one [I c.Z.length]),(12,.H .one [I (i.1:Nat)])]) (λi=>i.1<=c.Z.length/\iC 0 [] (c.Z.take i.1)=some i.2) (λi=>c.Z.length - i.1) (0,[]) ?_ ⟨Z0 _,rfl⟩ λi g=>?_
 ·exact wB
 obtain⟨i,s⟩:=i;obtain⟨g,d⟩:=g;simp only at g d |-;by_cases q:i<c.Z.length
 ·obtain⟨l,b⟩ : ∃l,c.Z[i]? = some l:=(ψ)
  have r:l.length<=1048576:=p.2 l ψ
  repeat'(first|refine gE ?_|with_reducible refine Bf.D (λe=>?_) (λe=>?_)|refine CB (gi (i:Nat)) ?_)
  ·exact C1 (λz=>[B z]) (mC b d (by grind [gf])).symm
  rotate_left
  ·exact C1 (λz=>[B z]) (mC b d (by grind [gf])).symm
  have t:l.length<=8:=ω
  have u:i<=3:=ω
  (conv=>whnf)
  refine CK (ι:=Nat × List Int) (λj=>[(1,.H .box (aF.enc .U c)),(3,.H .one [.m (gF j.2)]),(4,.H .one [I (i:Nat)]),(10,.H .one (kx .U c.Z)),(11,.H .one [I c.Z.length]),(12,.H .one [I (i:Nat)]),(25,.H .one (aH .U l)),(26,.H .one [I l.length]),(27,.H .one [I (j.1:Nat)])]) (λj=>j.1<=l.length/\tL i s (l.take j.1)=some j.2) (λj=>l.length - j.1) (0,s) ?_ ⟨Z0 _,rfl⟩ λj h=>?_
  ·exact wB
  obtain⟨j,k⟩:=j;obtain⟨h,a⟩:=h;simp only at h a |-;by_cases n:j<l.length
  ·obtain⟨y,o⟩ : ∃y,l[j]? = some y:=⟨_,C3 n⟩
   repeat'(first|refine gE ?_|with_reducible (first|refine Bf.D (λe=>?_) (λe=>?_)|refine Bf.N (λe=>?_) (λe=>?_))|refine CB (aN y 0 511) ?_|refine CB (eM (i:Nat)) ?_|refine CQ (QE ω) ?_|refine CU rfl ?_|refine Ml.mk (oC y k) ?_|refine Mu.mk (vt (by assumption)) ?_)
   all_goals first
    | exact C1 (λz=>[B z]) (mC b d (QK o a λ⟨C,E,F,G⟩=>by first|contradiction|omega)).symm
    | ((conv=>whnf)
       refine CG (j+1,k++[y]) ⟨(by simp only;omega),M9 o a ⟨ω,ω,(by assumption),(by assumption)⟩⟩ (by simp only;omega) ?_
       (exact wA))
  refine ZE ?_
  rw[O9 ω]at a;refine CG (i+1,k) ⟨(by simp only;omega),(by rw[vI b d];grind [gf])⟩ (by simp only;omega) ?_;exact wB
 refine ZE ?_
 grind [X0,bD]
theorem MQ:∀{b:List (List Int)}{k:Nat}{s c:List Int},iC k s b=some c->∀l∈b,l.length<=8
 | [],k,s,c,h,l,a=>by simp at a
 | x::b,k,s,c,h,l,a=>by
  simp only[iC]at h;unfold gf at h;split at h
  ·rename_i d
   rcases List.mem_cons.1 a with rfl|a
   ·exact d.1
   cases e:tL k s x with
   | none=>grind
   | some f=>rw[e]at h;exact MQ (show iC (k+1) f b=some c from h) l a
  cases h
theorem wT(h:bD c=true):c.Z.length=4/\∀l∈c.Z,l.length<=8:=by grind [Option.isSome_iff_exists,MQ,bD]
theorem sB(f:aU)(h:aU.sml f):zzA 86 false [.val (some 2) (aU.enc .U f)] .one [B (cY f)]:=by
 have C:=h.1.1;have E:f.a1.length<=1048576:=h.2;refine fO 61 [] Tryz.func86 rfl ?_
 repeat'(first|refine gP ?_|with_reducible (first|refine Bf.D (λa=>?_) (λa=>?_)|refine Bf.N (λa=>?_) (λa=>?_))|refine CB (aK f.T.length 1 32) ?_)
 ·exact C1 (λz=>[B z]) (by grind [cY])
 rotate_left
 ·exact C1 (λz=>[B z]) (by grind [cY])
 have t:1<=f.T.length/\f.T.length<=32:=ω
 have w:f.a1.length=f.T.length:=ω
 (conv=>whnf)
 refine CK (ι:=Nat) (λi=>[(1,.H .box (aU.enc .U f)),(3,.H .one [I (i:Nat)])]) (λi=>i<=f.T.length/\((f.T.zip f.a1).take i).all (λq=>iB q.1 q.2)=true) (λi=>f.T.length - i) 0 ?_ ψ λi j=>?_
 ·exact wB
 obtain⟨j,y⟩:=j;by_cases g:i<f.T.length
 ·obtain⟨r,c⟩ : ∃r,f.T[i]? = some r:=⟨_,C3 g⟩
  obtain⟨u,b⟩ : ∃u,f.a1[i]? = some u:=⟨_,C3 ω⟩
  repeat'(first|refine gE ?_|with_reducible refine Bf.N (λa=>?_) (λa=>?_))
  ·exact C1 (λz=>[B z]) (j9 c b (by grind [iB])).symm
  have l:r.length=16:=ω
  (conv=>whnf)
  refine CK (ι:=Nat) (λk=>[(1,.H .box (aU.enc .U f)),(3,.H .one [I (i:Nat)]),(4,.H .one [I (k:Nat)])]) (λk=>k<=16/\(r.take k).all (jx u)=true) (λk=>16 - k) 0 ?_ ψ λk n=>?_
  ·exact wB
  obtain⟨n,e⟩:=n;by_cases o:k<16
  ·obtain⟨v,d⟩ : ∃v,r[k]? = some v:=⟨_,C3 ω⟩
   cases u with
   | true=>
    repeat'(first|refine gE ?_|with_reducible (first|refine Bf.D (λa=>?_) (λa=>?_)|refine Bf.N (λa=>?_) (λa=>?_))|refine CB (aK v 0 999) ?_)
    all_goals first
     | exact C1 (λz=>[B z]) (j9 c b (tV d (by first|(unfold jx;rw[X0 ω];rfl)|(unfold jx;rw[X0 (p:=v=0) ω];simp)))).symm
     | ((conv=>whnf)
        refine CG (ι:=Nat) (k+1) ⟨ω,di d e (by unfold jx;first|(rw[O0 ω];rfl)|(rw[O0 (p:=0<=v/\v<=999) ω,O0 (p:=v=0) ω];rfl))⟩ ω ?_
        (exact wA))
   | false=>
    repeat'(first|refine gE ?_|with_reducible (first|refine Bf.D (λa=>?_) (λa=>?_)|refine Bf.N (λa=>?_) (λa=>?_))|refine CB (aK v 0 999) ?_)
    all_goals first
     | exact C1 (λz=>[B z]) (j9 c b (tV d (by first|(unfold jx;rw[X0 ω];rfl)|(unfold jx;rw[X0 (p:=v=0) ω];simp)))).symm
     | ((conv=>whnf)
        refine CG (ι:=Nat) (k+1) ⟨ω,di d e (by unfold jx;first|(rw[O0 ω];rfl)|(rw[O0 (p:=0<=v/\v<=999) ω,O0 (p:=v=0) ω];rfl))⟩ ω ?_
        (exact wA))
  refine ZE ?_
  refine CG (i+1) ⟨ω,di (yf c b) y (by grind [iB])⟩ ω ?_;exact wB
 refine ZE ?_
 exact C1 (λz=>[B z]) (by grind [List.length_zip,cY])
theorem nM(f:aU)(g:aU.sml f):zzA 242 false [.val (some 2) (aU.enc .U f)] .one [B (cY f)]:=by
 have C:=g.1.1;have E:f.a1.length<=1048576:=g.2;refine fO 55 [] Tryz.func242 rfl ?_
 repeat'(first|refine gP ?_|with_reducible (first|refine Bf.D (λa=>?_) (λa=>?_)|refine Bf.N (λa=>?_) (λa=>?_))|refine CB (aN f.T.length 1 32) ?_)
 ·exact C1 (λz=>[B z]) (by grind [cY])
 rotate_left
 ·exact C1 (λz=>[B z]) (by grind [cY])
 have p:1<=f.T.length/\f.T.length<=32:=ω
 have t:f.a1.length=f.T.length:=ω
 (conv=>whnf)
 refine CK (ι:=Nat) (λi=>[(1,.H .box (aU.enc .U f)),(22,.H .one (kx .U f.T)),(23,.H .one [I (f.T.length)]),(24,.H .one [I ((i:Nat):Int)])]) (λi=>i<=f.T.length/\((f.T.zip f.a1).take i).all (λq=>iB q.1 q.2)=true) (λi=>f.T.length - i) (0) ?_ ψ λi j=>?_
 ·exact wB
 obtain⟨j,w⟩:=j;by_cases h:i<f.T.length
 ·obtain⟨r,c⟩ : ∃r,f.T[i]? = some r:=⟨_,C3 h⟩
  obtain⟨u,b⟩ : ∃u,f.a1[i]? = some u:=⟨_,C3 ω⟩
  have y:r.length<=1048576:=g.1.2 r ψ
  repeat'(first|refine gE ?_|with_reducible refine Bf.N (λa=>?_) (λa=>?_))
  ·exact C1 (λz=>[B z]) (j9 c b (by grind [iB])).symm
  have l:r.length=16:=ω
  (conv=>whnf)
  refine CK (ι:=Nat) (λk=>[(1,.H .box (aU.enc .U f)),(3,.H .one [I ((i:Nat):Int)]),(22,.H .one (kx .U f.T)),(23,.H .one [I (f.T.length)]),(24,.H .one [I ((i:Nat):Int)]),(32,.H .one (aH .U r)),(33,.H .one [I (r.length)]),(34,.H .one [I ((k:Nat):Int)])]) (λk=>k<=r.length/\(r.take k).all (jx u)=true) (λk=>r.length - k) (0) ?_ ψ λk n=>?_
  ·exact wB
  obtain⟨n,e⟩:=n;by_cases o:k<r.length
  ·obtain⟨v,d⟩ : ∃v,r[k]? = some v:=⟨_,C3 ω⟩
   cases u with
   | true=>
    repeat'(first|refine gE ?_|with_reducible (first|refine Bf.D (λa=>?_) (λa=>?_)|refine Bf.N (λa=>?_) (λa=>?_))|refine CB (aN v 0 999) ?_)
    all_goals first
     | exact C1 (λz=>[B z]) (j9 c b (tV d (by unfold jx;grind))).symm
     | ((conv=>whnf)
        refine CG (ι:=Nat) (k+1) ⟨ω,di d e (by unfold jx;grind)⟩ ω ?_
        (exact wA))
   | false=>
    repeat'(first|refine gE ?_|with_reducible (first|refine Bf.D (λa=>?_) (λa=>?_)|refine Bf.N (λa=>?_) (λa=>?_))|refine CB (aN v 0 999) ?_)
    all_goals first
     | exact C1 (λz=>[B z]) (j9 c b (tV d (by unfold jx;grind))).symm
     | ((conv=>whnf)
        refine CG (ι:=Nat) (k+1) ⟨ω,di d e (by unfold jx;grind)⟩ ω ?_
        (exact wA))
  refine ZE ?_
  refine CG (i+1) ⟨ω,di (yf c b) w (by grind [iB])⟩ ω ?_;exact wB
 refine ZE ?_
 exact C1 (λz=>[B z]) (by grind [List.length_zip,cY])
theorem Gf(t:aM)(b:Int)(e:aM.sml t):zzA 469 false [.val (some 1) (aM.enc .U t),.val none [I b]] .one [B (ij t b)]:=by
 have k:=e.1;refine fO 54 [] Tryz.func469 rfl ?_
 refine ZP ?_
 refine CK (ι:=Nat) (λi=>[(1,.H .one [I (b)]),(2,.H .box (aM.enc .U t)),(5,.H .one [I ((i:Nat):Int)])]) (λi=>i<=t.K.length/\dv i (λj=>lD b (nth t.K j))=true) (λi=>t.K.length - i) 0 ?_ ⟨Z0 _,rfl⟩ λi c=>?_
 ·exact wB
 obtain⟨c,g⟩:=c;by_cases d:i<t.K.length
 ·have h:=ar d
  repeat'(first|refine gE ?_|with_reducible (first|refine Bf.D (λa=>?_) (λa=>?_)|refine Bf.N (λa=>?_) (λa=>?_)|refine Bf.E (λa=>?_) (λa=>?_))|refine CB (aK _ 0 2) ?_)
  all_goals first
   | exact C1 (λz=>[B z]) ((by symm;unfold ij;rw[cK d (X0 ψ)];rfl))
   | ((conv=>whnf);refine CG (i+1) ⟨ω,bZ g (O0 ψ)⟩ ω ?_;(exact wB))
 repeat'(first|refine gE ?_|refine CB (aK _ 1 32) ?_)
 obtain rfl:i=t.K.length:=ω
 exact C1 (λz=>[B z]) ((by grind [ij]))
theorem FI(t:aM)(b:Int)(e:aM.sml t):zzA 243 false [.val (some 1) (aM.enc .U t),.val none [I b]] .one [B (ij t b)]:=by
 have k:=e.1;refine fO 49 [] Tryz.func243 rfl ?_
 refine ZP ?_
 refine CK (ι:=Nat) (λi=>[(1,.H .one [I (b)]),(2,.H .box (aM.enc .U t)),(8,.H .one (HX .U t.K)),(9,.H .one [I (t.K.length)]),(10,.H .one [I ((i:Nat):Int)])]) (λi=>i<=t.K.length/\dv i (λj=>lD b (nth t.K j))=true) (λi=>t.K.length - i) 0 ?_ ⟨Z0 _,rfl⟩ λi c=>?_
 ·exact wB
 obtain⟨c,g⟩:=c;by_cases d:i<t.K.length
 ·have h:=ar d
  repeat'(first|refine gE ?_|with_reducible (first|refine Bf.D (λa=>?_) (λa=>?_)|refine Bf.N (λa=>?_) (λa=>?_)|refine Bf.E (λa=>?_) (λa=>?_))|refine CB (aN _ 0 2) ?_)
  all_goals first
   | exact C1 (λz=>[B z]) ((by symm;unfold ij;rw[cK d (X0 ψ)];rfl))
   | ((conv=>whnf);refine CG (i+1) ⟨ω,bZ g (O0 ψ)⟩ ω ?_;(exact wB))
 repeat'(first|refine gE ?_|refine CB (aN _ 1 32) ?_)
 obtain rfl:i=t.K.length:=ω
 exact C1 (λz=>[B z]) ((by grind [ij]))
theorem iK(t:aM)(f:Int)(c:aM.sml t):zzA 470 false [.val (some 1) (aM.enc .U t),.val none [I f]] .one (aH .own (pagesOn t f)):=by
 have j:=c.1;refine fO 37 [] Tryz.func470 rfl ?_ (.inr (bO _))
 refine ZP ?_
 refine CK (ι:=Nat) (λi=>[(1,.H .one [I (f)]),(2,.H .box (aM.enc .U t)),(5,.H .one (aH .own (lh t f i))),(6,.H .one [I ((i:Nat):Int)])]) (λi=>i<=t.K.length) (λi=>t.K.length - i) (0) ?_ (Z0 _) λi k=>?_
 ·exact wB
 have d:=vC t f i;by_cases e:i<t.K.length
 ·have g:=ar e
  repeat'(first|refine gE ?_|with_reducible (first|refine Bf.D (λb=>?_) (λb=>?_)|refine Bf.N (λb=>?_) (λb=>?_)|refine Bf.E (λb=>?_) (λb=>?_))|refine CV cC (λr h=>by rw[C2.1 h];rfl) (by simp[bn,eG]) (by simp;omega) (by simp only[O1];exact zd (by simp;omega) (by decide)) rfl ?_)
  all_goals first
   |(have a:QS t f i=true:=O0 ψ
     (conv=>whnf)
     refine CG (i+1) ω ω ?_;rw[DE a]
     (repeat'(first|exact trivial|rfl|exact CN rfl (CN (C1 (C.s dX.own) (by simp[rI])) trivial)|refine CN ?_ ?_)))
   |(have a:QS t f i=false:=X0 ψ
     (conv=>whnf)
     refine CG (i+1) ω ω ?_;rw[HE a]
     (exact wA))
 refine ZE ?_
 obtain rfl:i=t.K.length:=ω
 rfl
theorem lO(t:aM)(f:Int)(c:aM.sml t):zzA 244 false [.val (some 1) (aM.enc .U t),.val none [I f]] .one (aH .own (pagesOn t f)):=by
 have j:=c.1;refine fO 32 [] Tryz.func244 rfl ?_ (.inr (bO _))
 refine ZP ?_
 refine CK (ι:=Nat) (λi=>[(1,.H .one [I (f)]),(5,.H .one (aH .own (lh t f i))),(10,.H .one (HX .U t.K)),(11,.H .one [I (t.K.length)]),(12,.H .one [I ((i:Nat):Int)])]) (λi=>i<=t.K.length) (λi=>t.K.length - i) (0) ?_ (Z0 _) λi k=>?_
 ·exact wB
 have d:=vC t f i;by_cases e:i<t.K.length
 ·have g:=ar e
  repeat'(first|refine gE ?_|with_reducible (first|refine Bf.D (λb=>?_) (λb=>?_)|refine Bf.N (λb=>?_) (λb=>?_)|refine Bf.E (λb=>?_) (λb=>?_))|refine CV cC (λr h=>by rw[C2.1 h];rfl) (by simp[bn,eG]) (by simp;omega) (by simp only[O1];exact zd (by simp;omega) (by decide)) rfl ?_)
  all_goals first
   |(have a:QS t f i=true:=O0 ψ
     (conv=>whnf)
     refine CG (i+1) ω ω ?_;rw[DE a]
     (repeat'(first|exact trivial|rfl|exact CN rfl (CN (C1 (C.s dX.own) (by simp[rI])) trivial)|refine CN ?_ ?_)))
   |(have a:QS t f i=false:=X0 ψ
     (conv=>whnf)
     refine CG (i+1) ω ω ?_;rw[HE a]
     (exact wA))
 refine ZE ?_
 obtain rfl:i=t.K.length:=ω
 rfl
def dy(t:aM)(p:Int)(b:aM.sml t):zzA 34 false [.val (some 1) (aM.enc .U t),.val none [I p]] .agg (bm.enc .own (af t p)):=by
 have d:=b.1;refine fO 18 [] Tryz.func34 rfl ?_ (.inr (bm.enc_fr _));by_cases a:0<=p/\p<t.K.length
 ·have c:=ar (xs:=t.K) (i:=p.toNat) ω
  repeat'(first|refine gE ?_|refine CB (aK _ 0 _) ?_|refine CO a.1 (aa c) ?_)
  all_goals(unfold af;rw[CE a];rfl)
 repeat'(first|refine gE ?_|refine CB (aK _ 0 _) ?_)
 all_goals(unfold af;rw[CC a];rfl)
def dR(t:aM)(p:Int)(b:aM.sml t):zzA 104 false [.val (some 1) (aM.enc .U t),.val none [I p]] .agg (bm.enc .own (af t p)):=by
 have d:=b.1;refine fO 18 [] Tryz.func104 rfl ?_ (.inr (bm.enc_fr _));by_cases a:0<=p/\p<t.K.length
 ·have c:=ar (xs:=t.K) (i:=p.toNat) ω
  repeat'(first|refine gE ?_|refine CB (aN _ 0 _) ?_|refine CO a.1 (aa c) ?_)
  all_goals(unfold af;rw[CE a];rfl)
 repeat'(first|refine gE ?_|refine CB (aN _ 0 _) ?_)
 all_goals(unfold af;rw[CC a];rfl)
def th(t:aM)(f:Int):(pagesOn t f).length<=t.K.length:=vC ..
theorem qg(m:aY)(a:aY.sml m):zzA 350 false [.val (some 3) (aY.enc .U m)] .one [B (dx m)]:=by
 have q:m.W.a1.length<=1048576:=a.1.2;have k:m.W.T.length<=1048576:=a.1.1.1;have b:=sB m.W a.1;have c:=Gf m.Q m.W.T.length a.2;cases d:cY m.W with
 | false=>
  rw[d]at b;refine fO 39 [(6,13,[26,27,28,29,30,31,32,33,34,35,36,37,38])] Tryz.func350 rfl ?_
  refine ZP ?_
  exact C1 (λz=>[B z]) ((by grind [dx]))
 | true=>
  have g:=Gm d;rw[d]at b;cases e:ij m.Q m.W.a1.length with
  | false=>
   rw[show(m.W.T.length:Int)=m.W.a1.length by omega,e]at c;refine fO 39 [(6,13,[26,27,28,29,30,31,32,33,34,35,36,37,38])] Tryz.func350 rfl ?_
   repeat'(first|refine gP ?_|refine CB ((show(m.W.T.length:Int)=m.W.a1.length by omega) ▸ c) ?_)
   exact C1 (λz=>[B z]) ((by grind [dx]))
  | true=>
   rw[show(m.W.T.length:Int)=m.W.a1.length by omega,e]at c;refine fO 39 [(6,13,[26,27,28,29,30,31,32,33,34,35,36,37,38])] Tryz.func350 rfl ?_
   repeat'(first|refine gP ?_|refine CB ((show(m.W.T.length:Int)=m.W.a1.length by omega) ▸ c) ?_)
   refine CK (ι:=Nat) (λi=>[(1,.H .box (aY.enc .U m)),(3,.H .one [I ((i:Nat):Int)])]) (λi=>i<=m.W.a1.length/\dv i (qe m)=true) (λi=>m.W.a1.length - i) 0 ?_ ⟨Z0 _,rfl⟩ λi h=>?_
   ·exact wB
   obtain⟨h,l⟩:=h;by_cases j:i<m.W.a1.length
   ·have n:=ar j
    have o:=th m.Q (i:Nat)
    repeat'(first|refine gE ?_|with_reducible refine Bf.NB (λp=>?_) (λp=>?_)|refine CB (iK m.Q (i:Nat) a.2) ?_)
    all_goals first
     | exact C1 (λz=>[B z]) ((by symm;unfold dx;rw[d,e,cK j (by unfold qe;grind)];rfl))
     | ((conv=>whnf);refine CG (i+1) ⟨ω,bZ l (by unfold qe;grind)⟩ ω ?_;(exact wB))
   refine ZE ?_
   obtain rfl:i=m.W.a1.length:=ω
   exact C1 (λz=>[B z]) ((by grind [dx]))
theorem qx(m:aY)(b:aY.sml m):zzA 87 false [.val (some 3) (aY.enc .U m)] .one [B (dx m)]:=by
 have o:m.W.a1.length<=1048576:=b.1.2;have a:=nM m.W b.1;have c:=FI m.Q m.W.a1.length b.2;cases d:cY m.W with
 | false=>
  rw[d]at a;refine fO 37 [] Tryz.func87 rfl ?_
  refine ZP ?_
  exact C1 (λz=>[B z]) ((by grind [dx]))
 | true=>
  rw[d]at a;cases e:ij m.Q m.W.a1.length with
  | false=>
   rw[e]at c;refine fO 37 [] Tryz.func87 rfl ?_
   refine ZP ?_
   exact C1 (λz=>[B z]) ((by grind [dx]))
  | true=>
   rw[e]at c;refine fO 37 [] Tryz.func87 rfl ?_
   refine ZP ?_
   refine CK (ι:=Nat) (λi=>[(1,.H .box (aY.enc .U m)),(21,.H .one (vw .U m.W.a1)),(22,.H .one [I (m.W.a1.length)]),(23,.H .one [I ((i:Nat):Int)])]) (λi=>i<=m.W.a1.length/\dv i (qe m)=true) (λi=>m.W.a1.length - i) 0 ?_ ⟨Z0 _,rfl⟩ λi g=>?_
   ·exact wB
   obtain⟨g,j⟩:=g;by_cases h:i<m.W.a1.length
   ·have k:=ar h
    have l:=th m.Q (i:Nat)
    repeat'(first|refine gE ?_|with_reducible refine Bf.NB (λn=>?_) (λn=>?_)|refine CB (lO m.Q (i:Nat) b.2) ?_)
    all_goals first
     | exact C1 (λz=>[B z]) ((by symm;unfold dx;rw[d,e,cK h (by unfold qe;grind)];rfl))
     | ((conv=>whnf);refine CG (i+1) ⟨ω,bZ j (by unfold qe;grind)⟩ ω ?_;(exact wB))
   refine ZE ?_
   obtain rfl:i=m.W.a1.length:=ω
   exact C1 (λz=>[B z]) ((by grind [dx]))
def nz(k:ah)(d:ah.sml k):zzA 208 false [.val (some 5) (ah.enc .U k)] .one [B (aD k)]:=by
 have n:k.u.length<=1048576:=d.2;have a:=qg k.G d.1;refine fO 31 [] Tryz.func208 rfl ?_
 refine ZP ?_
 refine CK (ι:=Nat) (λi=>[(1,.H .box (ah.enc .U k)),(3,.H .one [I ((i:Nat):Int)])]) (λi=>i<=k.u.length/\dv i (λj=>decide (0<=nth k.u j))=true) (λi=>k.u.length - i) 0 ?_ ⟨Z0 _,rfl⟩ λi e=>?_
 ·exact wB
 obtain⟨e,g⟩:=e;by_cases h:i<k.u.length
 ·have l:=ar h
  repeat'(first|refine gE ?_|with_reducible refine Bf.D (λc=>?_) (λc=>?_))
  all_goals first
   | exact C1 (λz=>[B z]) ((by symm;unfold aD;rw[cK h (X0 ω)];rfl))
   | ((conv=>whnf);refine CG (i+1) ⟨ω,bZ g (O0 ω)⟩ ω ?_;(exact wB))
 obtain rfl:i=k.u.length:=ω
 cases b:dx k.G with
 | false=>
  rw[b]at a
  refine ZE ?_
  all_goals exact C1 (λz=>[B z]) ((by unfold aD;rw[b];simp))
 | true=>
  rw[b]at a
  repeat'(first|refine gE ?_|with_reducible refine Bf.D (λc=>?_) (λc=>?_)|refine CB (aK _ 0 100000) ?_)
  all_goals exact C1 (λz=>[B z]) ((by unfold aD;rw[b,g];simp only[Bool.true_and];first|exact decide_eq_decide.2 ω|(symm;exact X0 ω)|(symm;exact O0 ω)))
def si(k:ah)(b:ah.sml k):zzA 26 false [.val (some 5) (ah.enc .U k)] .one [B (aD k)]:=by
 have l:k.u.length<=1048576:=b.2;have g:=qx k.G b.1;refine fO 29 [] Tryz.func26 rfl ?_
 refine ZP ?_
 refine CK (ι:=Nat) (λi=>[(1,.H .box (ah.enc .U k)),(6,.H .one (aH .U k.u)),(7,.H .one [I (k.u.length)]),(8,.H .one [I ((i:Nat):Int)])]) (λi=>i<=k.u.length/\dv i (λj=>decide (0<=nth k.u j))=true) (λi=>k.u.length - i) 0 ?_ ⟨Z0 _,rfl⟩ λi c=>?_
 ·exact wB
 obtain⟨c,d⟩:=c;by_cases e:i<k.u.length
 ·have h:=ar e
  repeat'(first|refine gE ?_|with_reducible refine Bf.D (λa=>?_) (λa=>?_))
  all_goals first
   | exact C1 (λz=>[B z]) ((by symm;unfold aD;rw[cK e (X0 ω)];rfl))
   | ((conv=>whnf);refine CG (i+1) ⟨ω,bZ d (O0 ω)⟩ ω ?_;(exact wB))
 obtain rfl:i=k.u.length:=ω
 repeat'(first|refine gE ?_|with_reducible refine Bf.D (λa=>?_) (λa=>?_)|refine CB (aN _ 0 100000) ?_)
 all_goals exact C1 (λz=>[B z]) ((by unfold aD;rw[d];cases dx k.G<;>simp only[Bool.true_and,Bool.false_and]<;>first|rfl|exact decide_eq_decide.2 ω|(symm;exact X0 ω)|(symm;exact O0 ω)))
def AF(pages:Int)(r:aB)(b:0<=pages/\pages<=1048576):zzA 351 false [.val none [I pages],.val (some 2) (aB.enc .U r)] .one [B (rangeIn pages r)]:=by
 refine fO 18 [] Tryz.func351 rfl ?_
 repeat'(first|refine gP ?_|with_reducible refine Bf.D (λa=>?_) (λa=>?_)|refine CB (aK _ 1 _) ?_|refine CB (aK _ 0 _) ?_)
 all_goals exact C1 (λz=>[B z]) ((by unfold rangeIn;first|(symm;exact X0 ω)|exact decide_eq_decide.2 ω))
def Am(pages:Int)(r:aB)(b:0<=pages/\pages<=1048576):zzA 223 false [.val none [I pages],.val (some 2) (aB.enc .U r)] .one [B (rangeIn pages r)]:=by
 refine fO 18 [] Tryz.func223 rfl ?_
 repeat'(first|refine gP ?_|with_reducible refine Bf.D (λa=>?_) (λa=>?_)|refine CB (aN _ 1 _) ?_|refine CB (aN _ 0 _) ?_)
 all_goals exact C1 (λz=>[B z]) ((by unfold rangeIn;first|(symm;exact X0 ω)|exact decide_eq_decide.2 ω))
theorem oz(k:Int):zzA 472 false [.val none [I k]] .one [I (slots k)]:=by
 by_cases b:0<=k/\k<=3
 ·obtain rfl|rfl|rfl|rfl:k=0\/k=1\/k=2\/k=3:=ω
  all_goals
   refine fO 9 [] Tryz.func472 rfl ?_
   repeat'(first|refine gE ?_|with_reducible refine Bf.D (λa=>?_) (λa=>?_)|refine CB (aK _ 0 3) ?_|refine CQ (by decide) ?_|refine CP rfl ?_|refine CU rfl ?_)
   exact C1 (λz=>[I z]) (by decide)
 refine fO 9 [] Tryz.func472 rfl ?_
 repeat'(first|refine gE ?_|with_reducible refine Bf.D (λa=>?_) (λa=>?_)|refine CB (aK _ 0 3) ?_)
 exact C1 (λz=>[I z]) (by grind [slots])
theorem gK(k:Int):zzA 335 false [.val none [I k]] .one [I (slots k)]:=by
 by_cases b:0<=k/\k<=3
 ·obtain rfl|rfl|rfl|rfl:k=0\/k=1\/k=2\/k=3:=ω
  all_goals
   refine fO 9 [] Tryz.func335 rfl ?_
   repeat'(first|refine gE ?_|with_reducible refine Bf.D (λa=>?_) (λa=>?_)|refine CB (gi _) ?_|refine CB (eM _) ?_|refine CQ (by decide) ?_|refine CP rfl ?_|refine CU rfl ?_)
   exact C1 (λz=>[I z]) (by decide)
 refine fO 9 [] Tryz.func335 rfl ?_
 repeat'(first|refine gE ?_|with_reducible refine Bf.D (λa=>?_) (λa=>?_)|refine CB (gi _) ?_)
 exact C1 (λz=>[I z]) (by grind [slots])
def P6(k b:Int):Bool:=decide (0<=k/\k<=3/\0<=b/\b<=lim k)
theorem sI(k b:Int):zzA 471 false [.val none [I (slots k)],.val none [I b]] .one [B (P6 k b)]:=by
 by_cases d:0<=k/\k<=3
 ·obtain rfl|rfl|rfl|rfl:k=0\/k=1\/k=2\/k=3:=ω
  all_goals
   first|rw[show slots 0=16 from rfl]|rw[show slots 1=8 from rfl]|rw[show slots 2=4 from rfl]|rw[show slots 3=2 from rfl]
   refine fO 15 [] Tryz.func471 rfl ?_
   repeat'(first|refine gE ?_|with_reducible refine Bf.D (λa=>?_) (λa=>?_)|refine CB (aK _ 1 16) ?_|refine CB (aK _ 0 _) ?_|refine CQ (by decide) ?_|refine CP (show _=(65536:Int) by decide) ?_|refine CP (show _=(65535:Int) by decide) ?_|refine CP (show _=(256:Int) by decide) ?_|refine CP (show _=(255:Int) by decide) ?_|refine CP (show _=(16:Int) by decide) ?_|refine CP (show _=(15:Int) by decide) ?_|refine CP (show _=(4:Int) by decide) ?_|refine CP (show _=(8:Int) by decide) ?_|refine CP (show _=(2:Int) by decide) ?_|refine CP (show _=(3:Int) by decide) ?_)
   all_goals exact C1 (λz=>[B z]) ((decide_eq_decide.2 (by simp[lim])))
 have c:slots k=0:=by grind [slots]
 rw[c];refine fO 15 [] Tryz.func471 rfl ?_
 repeat'(first|refine gE ?_|with_reducible refine Bf.D (λa=>?_) (λa=>?_)|refine CB (aK _ 1 16) ?_)
 exact C1 (λz=>[B z]) ((by symm;exact X0 ω))
theorem sG(k b:Int):zzA 375 false [.val none [I (slots k)],.val none [I b]] .one [B (P6 k b)]:=by
 by_cases d:0<=k/\k<=3
 ·obtain rfl|rfl|rfl|rfl:k=0\/k=1\/k=2\/k=3:=ω
  all_goals
   first|rw[show slots 0=16 from rfl]|rw[show slots 1=8 from rfl]|rw[show slots 2=4 from rfl]|rw[show slots 3=2 from rfl]
   refine fO 14 [] Tryz.func375 rfl ?_
   repeat'(first|refine gE ?_|with_reducible refine Bf.D (λa=>?_) (λa=>?_)|refine CB (aN _ 1 16) ?_|refine CB (aN _ 0 _) ?_|refine CQ (by decide) ?_|refine CP (fJ (by decide) (by decide)) ?_)
   all_goals exact C1 (λz=>[B z]) ((decide_eq_decide.2 (by simp[lim,IntKind.bits])))
 have c:slots k=0:=by grind [slots]
 rw[c];refine fO 14 [] Tryz.func375 rfl ?_
 repeat'(first|refine gE ?_|with_reducible refine Bf.D (λa=>?_) (λa=>?_)|refine CB (aN _ 1 16) ?_)
 exact C1 (λz=>[B z]) ((by symm;exact X0 ω))
def iz(s:aA):zzA 352 false [.val (some 3) (aA.enc .U s)] .one [B (bh s)]:=by
 refine fO 14 [(1,12,[3,4,5,6,7,8,9,10,11,12,13,2])] Tryz.func352 rfl ?_
 repeat'(first|refine gP ?_|with_reducible refine Bf.D (λa=>?_) (λa=>?_)|refine CB (aK _ 0 31) ?_|refine CB (oz _) ?_|refine CB (sI _ _) ?_)
 all_goals exact C1 (λz=>[B z]) ((by unfold bh;first|(symm;exact X0 ω)|exact decide_eq_decide.2 ω))
def iD(s:aA):zzA 225 false [.val (some 3) (aA.enc .U s)] .one [B (bh s)]:=by
 refine fO 19 [(1,17,[3,4,5,6,7,8,9,10,11,12,13,14,15,16,17,18,2])] Tryz.func225 rfl ?_
 repeat'(first|refine gP ?_|with_reducible refine Bf.D (λa=>?_) (λa=>?_)|refine CB (aN _ 0 31) ?_|refine CB (gi _) ?_|refine CB (gK _) ?_|refine CB (sG _ _) ?_)
 all_goals exact C1 (λz=>[B z]) ((by unfold bh;first|(symm;exact X0 ω)|exact decide_eq_decide.2 ω))
section
variable{α:Type}{xs:List α}{p:α->Bool}{i:Nat}{y:α}
theorem F6(h:xs[i]? = some y)(a:p y=true):xs.any p=true:=t5.2 ψ
theorem yO(h:xs[i]? = some y)(a:(xs.take i).any p=false)(b:p y=false):(xs.take (i+1)).any p=false:=by grind [X7]
theorem W9(a:xs.length<=i)(b:(xs.take i).any p=false):xs.any p=false:=by grind [O9]
theorem ik[Inhabited α](a:0<i)(b:i<xs.length):xs[((i:Int) - 1).toNat]? = some (nth xs (i - 1)):=by
 rw[show((i:Int) - 1).toNat=i - 1 by omega];grind [ar]
end
theorem zZ{pages:Int}{xs:List aB}(a:dv n (ig pages xs)=true)(b:i<n):1<=(nth xs i).a8/\(nth xs i).a8<=pages/\0<=(nth xs i).At/\(nth xs i).At<=pages - (nth xs i).a8:=by grind [fG,ig,rangeIn]
theorem n8(pages:Int)(xs:List aB)(d:0<=pages/\pages<=1048576)(k:gI xs):zzA 209 false [.val none [I pages],.val none (bt .U xs)] .one [B (bG pages xs)]:=by
 have n:=k.1;refine fO 46 [(4,32,[12,13,14,15,16,17,18,19,20,21,22,23,24,25,26,27,28,29,30,31,32,33,34,35,36,37,38,39,40,41,42,43])] Tryz.func209 rfl ?_
 refine ZP ?_
 refine CK (ι:=Nat) (λi=>[(0,.H .one [I (pages)]),(1,.H .one (bt .U xs)),(5,.H .one [I ((i:Nat):Int)])]) (λi=>i<=xs.length/\dv i (ig pages xs)=true) (λi=>xs.length - i) 0 ?_ ⟨Z0 _,rfl⟩ λi e=>?_
 ·exact wB
 obtain⟨e,g⟩:=e;by_cases c:i<xs.length
 ·have j:=ar c
  have o:0<i->1<=(nth xs (i - 1)).a8/\(nth xs (i - 1)).a8<=pages/\0<=(nth xs (i - 1)).At/\(nth xs (i - 1)).At<=pages - (nth xs (i - 1)).a8:=λh=>zZ g ω
  cases b:rangeIn pages (nth xs i) with
  | false=>
   have a:=AF pages (nth xs i) d;rw[b]at a
   refine ZE ?_
   exact C1 (λz=>[B z]) ((by grind [cK,bG,ig]))
  | true=>
   have a:=AF pages (nth xs i) d;rw[b]at a
   repeat'(first|refine gE ?_|with_reducible refine Bf.D (λl=>?_) (λl=>?_)|refine CO ω (aa (ik ω c)) ?_)
   all_goals first
    | exact C1 (λz=>[B z]) ((by symm;unfold bG;rw[cK c (by unfold ig;rw[b,X0 ω];rfl)];rfl))
    | ((conv=>whnf);refine CG (i+1) ⟨ω,bZ g (by unfold ig;rw[b,O0 ω];rfl)⟩ ω ?_;(exact wB))
 repeat'(first|refine gE ?_|refine CB (aK pages 1 32) ?_)
 grind [bG]
theorem nl(pages:Int)(xs:List aB)(j:0<=pages/\pages<=1048576)(k:gI xs):zzA 75 false [.val none [I pages],.val none (bt .U xs)] .one [B (bG pages xs)]:=by
 have n:=k.1;refine fO 43 [(4,26,[14,15,16,17,18,19,20,21,22,23,24,25,26,27,28,29,30,31,32,33,34,35,36,37,38,39])] Tryz.func75 rfl ?_
 refine ZP ?_
 refine CK (ι:=Nat) (λi=>[(0,.H .one [I (pages)]),(1,.H .one (bt .U xs)),(7,.H .one (bt .U xs)),(8,.H .one [I (xs.length)]),(9,.H .one [I ((i:Nat):Int)])]) (λi=>i<=xs.length/\dv i (ig pages xs)=true) (λi=>xs.length - i) 0 ?_ ⟨Z0 _,rfl⟩ λi d=>?_
 ·exact wB
 obtain⟨d,e⟩:=d;by_cases c:i<xs.length
 ·have g:=ar c
  have o:0<i->1<=(nth xs (i - 1)).a8/\(nth xs (i - 1)).a8<=pages/\0<=(nth xs (i - 1)).At/\(nth xs (i - 1)).At<=pages - (nth xs (i - 1)).a8:=λh=>zZ e ω
  have a:=Am pages (nth xs i) j;cases b:rangeIn pages (nth xs i) with
  | false=>
   rw[b]at a
   refine ZE ?_
   exact C1 (λz=>[B z]) ((by grind [cK,bG,ig]))
  | true=>
   rw[b]at a
   repeat'(first|refine gE ?_|with_reducible refine Bf.D (λl=>?_) (λl=>?_)|refine CO ω (aa (ik ω c)) ?_)
   all_goals first
    | exact C1 (λz=>[B z]) ((by symm;unfold bG;rw[cK c (by unfold ig;rw[b,X0 ω];rfl)];rfl))
    | ((conv=>whnf);refine CG (i+1) ⟨ω,bZ e (by unfold ig;rw[b,O0 ω];rfl)⟩ ω ?_;(exact wB))
 repeat'(first|refine gE ?_|refine CB (aN pages 1 32) ?_)
 grind [bG]
theorem BQ(xs:List aB)(page:Int)(g:xs.length<=9223372036854775807):zzA 356 false [.val none (bt .U xs),.val none [I page]] .one [B (xs.any (xw page))]:=by
 refine fO 34 [(4,22,[12,13,14,15,16,17,18,19,20,21,22,23,24,25,26,27,28,29,30,31,32,33])] Tryz.func356 rfl ?_
 refine ZP ?_
 refine CK (ι:=Nat) (λi=>[(0,.H .one (bt .U xs)),(1,.H .one [I (page)]),(5,.H .one [I ((i:Nat):Int)])]) (λi=>i<=xs.length/\(xs.take i).any (xw page)=false) (λi=>xs.length - i) (0) ?_ ψ λi b=>?_
 ·exact wB
 obtain⟨b,c⟩:=b;by_cases d:i<xs.length
 ·have a:=ar d
  repeat'(first|refine gE ?_|with_reducible refine Bf.D (λe=>?_) (λe=>?_)|refine CP rfl ?_)
  all_goals first
   | exact C1 (λz=>[B z]) ((F6 a (by unfold xw;rw[O0 (by assumption),O0 (by assumption)];rfl)).symm)
   | ((conv=>whnf);refine CG (i+1) ⟨ω,yO a c (by unfold xw;first|(rw[X0 (by assumption:¬(nth xs i).At<=page)];rfl)|(rw[X0 (by assumption:¬page<_)];simp))⟩ ω ?_;(exact wB))
 refine ZE ?_
 exact C1 (λz=>[B z]) ψ
variable{z:Int}
def tdiv16(h:0<=z):z.tdiv 16=z / 16:=Int.tdiv_eq_ediv_of_nonneg h
theorem nJ(z:Int):zzA 370 false [.val none [I z]] .one [I (fF z)]:=by
 refine fO 10 [] Tryz.func370 rfl ?_;by_cases b:9<=z/\z<=1000
 ·repeat'(first|refine gE ?_|with_reducible refine Bf.D (λa=>?_) (λa=>?_)|refine CB (aK z 9 1000) ?_|refine CQ (by decide) ?_|refine CP ((C1 _ (tdiv16 ω)).trans (fJ ω ω)) ?_)
  grind [fF]
 repeat'(first|refine gE ?_|with_reducible refine Bf.D (λa=>?_) (λa=>?_)|refine CB (aK z 9 1000) ?_)
 all_goals exact C1 (λz=>[I z]) (by unfold fF;rw[CC b])
theorem rY(z:Int):zzA 191 false [.val none [I z]] .one [I (fF z)]:=by
 refine fO 10 [] Tryz.func191 rfl ?_;by_cases b:9<=z/\z<=1000
 ·repeat'(first|refine gE ?_|with_reducible refine Bf.D (λa=>?_) (λa=>?_)|refine CB (aN z 9 1000) ?_|refine CQ (by decide) ?_|refine CP ((C1 _ (tdiv16 ω)).trans (fJ ω ω)) ?_)
  grind [fF]
 repeat'(first|refine gE ?_|with_reducible refine Bf.D (λa=>?_) (λa=>?_)|refine CB (aN z 9 1000) ?_)
 all_goals exact C1 (λz=>[I z]) (by unfold fF;rw[CC b])
def pz(l:aE):zzA 354 false [.val (some 3) (aE.enc .U l)] .one [B (bR l)]:=by
 have b:=nJ l.y;by_cases c:9<=l.y/\l.y<=1000
 ·rw[show fF l.y=(l.y+15) / 16 from CE c]at b
  refine fO 22 [] Tryz.func354 rfl ?_
  repeat'(first|refine gP ?_|with_reducible (first|refine Bf.D (λa=>?_) (λa=>?_)|refine Bf.E (λa=>?_) (λa=>?_))|refine CB (aK _ 0 _) ?_)
  all_goals exact C1 (λz=>[B z]) ((by unfold bR;first|(symm;exact X0 ω)|exact decide_eq_decide.2 ω))
 rw[show fF l.y=0 from CC c]at b;refine fO 22 [] Tryz.func354 rfl ?_
 repeat'(first|refine gE ?_|with_reducible refine Bf.D (λa=>?_) (λa=>?_))
 all_goals exact C1 (λz=>[B z]) ((by unfold bR;symm;exact X0 ω))
def uR(l:aE):zzA 226 false [.val (some 3) (aE.enc .U l)] .one [B (bR l)]:=by
 have b:=rY l.y;by_cases c:9<=l.y/\l.y<=1000
 ·rw[show fF l.y=(l.y+15) / 16 from CE c]at b
  refine fO 22 [(1,20,[3,4,5,6,7,8,9,10,11,12,13,14,15,16,17,18,19,20,21,2])] Tryz.func226 rfl ?_
  repeat'(first|refine gE ?_|with_reducible (first|refine Bf.D (λa=>?_) (λa=>?_)|refine Bf.E (λa=>?_) (λa=>?_))|refine CB (aN _ 9 1000) ?_|refine CB (aN _ 0 _) ?_)
  all_goals exact C1 (λz=>[B z]) ((by unfold bR;first|(symm;exact X0 ω)|exact decide_eq_decide.2 ω))
 refine fO 22 [(1,20,[3,4,5,6,7,8,9,10,11,12,13,14,15,16,17,18,19,20,21,2])] Tryz.func226 rfl ?_
 repeat'(first|refine gE ?_|with_reducible refine Bf.D (λa=>?_) (λa=>?_)|refine CB (aN _ 9 1000) ?_)
 all_goals exact C1 (λz=>[B z]) ((by unfold bR;symm;exact X0 ω))
theorem rD(h:0<=z/\z<=9223372036854775807):(BitVec.ofInt IntKind.i64.bits z).toNat=z.toNat:=by
 show(BitVec.ofInt 64 z).toNat=z.toNat
 grind
theorem and64{z1 z2:Int}(h1:0<=z1/\z1<=9223372036854775807)(a:0<=z2/\z2<=9223372036854775807):IntKind.i64.wrap ((BitVec.ofInt IntKind.i64.bits z1 &&& BitVec.ofInt IntKind.i64.bits z2).toNat:Nat)=((z1.toNat &&& z2.toNat:Nat):Int):=by grind [rD,Nat.and_le_left,fJ]
theorem K9(k:Int):lim k<=65535:=by grind [lim]
variable{s:aA}
def fX(h:bh s=true):0<=s.a9/\s.a9<=9223372036854775807:=by
 unfold bh at h;simp only[C0]at h;have:=K9 s.d;omega
def nE(b c:aA):zzA 357 false [.val (some 3) (aA.enc .U b),.val (some 3) (aA.enc .U c)] .one [B (meshable b c)]:=by
 have g:=iz b;have h:=iz c;cases d:bh b<;>rw[d]at g<;>cases e:bh c<;>rw[e]at h
 all_goals
  refine fO 33 [] Tryz.func357 rfl ?_
  repeat'(first|refine gP ?_|with_reducible (first|refine Bf.D (λa=>?_) (λa=>?_)|refine Bf.N (λa=>?_) (λa=>?_)|refine Bf.E (λa=>?_) (λa=>?_))|refine CP (and64 (fX d) (fX e)) ?_)
  all_goals exact C1 (λz=>[B z]) ((by unfold meshable;rw[d,e];first|rfl|(symm;exact X0 ω)|(rw[I6];simp;omega)))
def ny(b c:aA):zzA 229 false [.val (some 3) (aA.enc .U b),.val (some 3) (aA.enc .U c)] .one [B (meshable b c)]:=by
 have g:=iD b;have h:=iD c;cases d:bh b<;>rw[d]at g<;>cases e:bh c<;>rw[e]at h
 all_goals
  refine fO 33 [] Tryz.func229 rfl ?_
  repeat'(first|refine gP ?_|with_reducible (first|refine Bf.D (λa=>?_) (λa=>?_)|refine Bf.N (λa=>?_) (λa=>?_)|refine Bf.E (λa=>?_) (λa=>?_))|refine CP (and64 (fX d) (fX e)) ?_)
  all_goals exact C1 (λz=>[B z]) ((by unfold meshable;rw[d,e];first|rfl|(symm;exact X0 ω)|(rw[I6];simp;omega)))
def Ed(k:Int):zzA 384 false [.val none [I k]] .one [B (decide (0<=k/\k<=15))]:=by
 refine fO 5 [] Tryz.func384 rfl ?_
 repeat'(first|refine gP ?_|refine CB (aN k 0 15) ?_)
 rfl
def xf(p:cn)(e:cn.sml p):zzA 365 false [.val (some 3) (cn.enc .U p)] .one [B (fk p)]:=by
 have h:p.T.length<=1048576:=e;refine fO 51 [(4,25,[11,12,13,14,15,16,17,18,19,20,21,22,23,24,25,26,27,28,29,30,31,32,33,34,35])] Tryz.func365 rfl ?_
 refine ZP ?_
 refine CK (ι:=Nat) (λi=>[(1,.H .box (cn.enc .U p)),(3,.H .one [I ((i:Nat):Int)])]) (λi=>i<=p.T.length/\dv i (nv p.T)=true) (λi=>p.T.length - i) 0 ?_ ⟨Z0 _,rfl⟩ λi c=>?_
 ·exact wB
 obtain⟨c,d⟩:=c;by_cases b:i<p.T.length
 ·have g:=ar b
  repeat'(first|refine gE ?_|with_reducible refine Bf.D (λa=>?_) (λa=>?_)|refine CB (aK _ 0 15) ?_|refine CO ω (aa (ik ω b)) ?_)
  all_goals first
   | exact C1 (λz=>[B z]) ((by symm;unfold fk;rw[cK b (X0 ω)];rfl))
   | ((conv=>whnf);refine CG (i+1) ⟨ω,bZ d (O0 ω)⟩ ω ?_;(exact wB))
 obtain rfl:i=p.T.length:=ω
 repeat'(first|refine gE ?_|with_reducible (first|refine Bf.D (λa=>?_) (λa=>?_)|refine Bf.NB (λa=>?_) (λa=>?_)|refine Bf.N (λa=>?_) (λa=>?_))|refine CB (aK _ 0 31) ?_)
 all_goals exact C1 (λz=>[B z]) ((by unfold fk;rw[d];simp only[Bool.true_and];first|(symm;exact X0 ω)|exact decide_eq_decide.2 ω|(rw[I6];simp;omega)))
def wI(p:cn)(e:cn.sml p):zzA 239 false [.val (some 3) (cn.enc .U p)] .one [B (fk p)]:=by
 have h:p.T.length<=1048576:=e;refine fO 46 [] Tryz.func239 rfl ?_
 refine ZP ?_
 refine CK (ι:=Nat) (λi=>[(1,.H .box (cn.enc .U p)),(6,.H .one (aH .U p.T)),(7,.H .one [I (p.T.length)]),(8,.H .one [I ((i:Nat):Int)])]) (λi=>i<=p.T.length/\dv i (nv p.T)=true) (λi=>p.T.length - i) 0 ?_ ⟨Z0 _,rfl⟩ λi c=>?_
 ·exact wB
 obtain⟨c,d⟩:=c;by_cases b:i<p.T.length
 ·have g:=ar b
  repeat'(first|refine gE ?_|with_reducible refine Bf.D (λa=>?_) (λa=>?_)|refine CB (Ed _) ?_|refine CO ω (aa (ik ω b)) ?_)
  all_goals first
   | exact C1 (λz=>[B z]) ((by symm;unfold fk;rw[cK b (X0 ω)];rfl))
   | ((conv=>whnf);refine CG (i+1) ⟨ω,bZ d (O0 ω)⟩ ω ?_;(exact wB))
 obtain rfl:i=p.T.length:=ω
 repeat'(first|refine gE ?_|with_reducible (first|refine Bf.D (λa=>?_) (λa=>?_)|refine Bf.NB (λa=>?_) (λa=>?_)|refine Bf.N (λa=>?_) (λa=>?_))|refine CB (aN _ 0 31) ?_)
 all_goals exact C1 (λz=>[B z]) ((by unfold fk;rw[d];simp only[Bool.true_and];first|(symm;exact X0 ω)|exact decide_eq_decide.2 ω|(rw[I6];simp;omega)))
def Az(j:cz)(a:cz.sml j):zzA 218 false [.val (some 5) (cz.enc .U j)] .one [B (jX j)]:=by
 have e:j.X.T.length<=1048576:=a;have b:=xf j.X a;cases c:fk j.X<;>rw[c]at b
 all_goals
  refine fO 20 [] Tryz.func218 rfl ?_
  repeat'(first|refine gP ?_|with_reducible refine Bf.D (λd=>?_) (λd=>?_)|refine CB (aK _ 0 5) ?_|refine CB (aK _ 0 _) ?_)
  all_goals exact C1 (λz=>[B z]) ((by unfold jX;rw[c];first|rfl|(symm;exact X0 ω)|(rw[I6];simp;omega)))
def zX(j:cz)(a:cz.sml j):zzA 84 false [.val (some 5) (cz.enc .U j)] .one [B (jX j)]:=by
 have e:j.X.T.length<=1048576:=a;have b:=wI j.X a;cases c:fk j.X<;>rw[c]at b
 all_goals
  refine fO 20 [] Tryz.func84 rfl ?_
  repeat'(first|refine gP ?_|with_reducible refine Bf.D (λd=>?_) (λd=>?_)|refine CB (aN _ 0 5) ?_|refine CB (aN _ 0 _) ?_)
  all_goals exact C1 (λz=>[B z]) ((by unfold jX;rw[c];first|rfl|(symm;exact X0 ω)|(rw[I6];simp;omega)))
theorem lR(l:aE)(k:Nat):lpgs l (k+1)=lpgs l k++[l.R+(k:Nat)]:=by grind [List.range_succ,lpgs]
theorem Hq(l:aE)(k:Nat):(lpgs l k).length=k:=by unfold lpgs;simp
theorem RE(l:aE)(h:k<=n):lpgs l k <+: lpgs l n:=by
 induction n with
 | zero=>
  grind
 | succ n a=>
  grind [lR]
variable{la:List aE}
theorem qa(sp:List aA){l:aE}(h:la[i]? = some l):pgs sp (la.take (i+1))=pgs sp (la.take i)++lpgs l l.a4.toNat:=by grind [X7,pgs]
theorem Uj(sp:List aA)(la:List aE)(i:Nat):pgs sp (la.take i) <+: pgs sp la:=by grind [List.take_append_drop,pgs]
variable{p:Int}{S:List Int}
theorem Rh{all:List Int}(h:(S++[p]) <+: all)(a:p∈S):decide all.Nodup=false:=by grind [List.nodup_append]
theorem mw(h:S.Nodup)(a:p∉S):(S++[p]).Nodup:=ψ
variable{sp:List aA}
theorem Hz(h:sp[i]? = some s):((sp.take i).map (·.R)++[s.R]) <+: pgs sp la:=by
 have a:(sp.take i).map (·.R)++[s.R]=(sp.take (i+1)).map (·.R):=by grind [X7]
 rw[a];refine List.IsPrefix.trans ?_ (List.prefix_append ..)
 grind
theorem DV{l:aE}(h:la[i]? = some l)(a:k<l.a4.toNat):(pgs sp (la.take i)++lpgs l k++[l.R+(k:Nat)]) <+: pgs sp la:=by
 refine List.IsPrefix.trans ?_ (Uj sp la (i+1));rw[qa sp h,Y7,<-lR]
 grind [List.prefix_append_right_inj,RE]
theorem rV(h:sp[i]? = some s)(a:bh s=false):bx sp la=false:=by grind [bx]
theorem qG{l:aE}(h:la[i]? = some l)(a:bR l=false):bx sp la=false:=by grind [bx]
theorem lM(h:(S++[p]) <+: pgs sp la)(a:p∈S):bx sp la=false:=by grind [Rh,bx]
theorem uz(h1:sp.all bh=true)(a:la.all bR=true)(b:(pgs sp la).Nodup):bx sp la=true:=by grind [bx]
theorem aW{l:aE}(h:bR l=true):1<=l.a4/\l.a4<=63/\0<=l.R/\l.R<=31:=by grind [bR]
theorem n9(sp:List aA)(la:List aE)(t:dY sp)(u:eD la):zzA 210 false [.val none (ce .U sp),.val none (cJ .U la)] .one [B (bx sp la)]:=by
 have J:=t.1;have K:=u.1;refine fO 79 [] Tryz.func210 rfl ?_
 refine ZP ?_
 refine CK (ι:=Nat × List Int) (λi=>[(0,.H .one (ce .U sp)),(1,.H .one (cJ .U la)),(5,.H .one (aH .own i.2)),(6,.H .one [I ((i.1:Nat):Int)])]) (λi=>i.1<=sp.length/\i.2=(sp.take i.1).map (·.R)/\(sp.take i.1).all bh=true/\i.2.Nodup) (λi=>sp.length - i.1) ((0,[])) ?_ ψ λi o=>?_
 ·exact wB
 obtain⟨i,S⟩:=i;obtain⟨o,q,d,h⟩:=o;simp only at o q d h |-;have L:S.length=i:=ψ
 by_cases w:i<sp.length
 ·have a:=ar w
  have j:=iz (nth sp i);cases e:bh (nth sp i)<;>rw[e]at j
  ·refine ZE ?_
   exact C1 (λz=>[B z]) ((rV a e).symm)
  repeat'(first|refine gE ?_|with_reducible refine Bf.D (λy=>?_) (λy=>?_)|refine CH (nP S _ ω) ⟨⟨rfl,dH _⟩,⟨rfl,rfl⟩,trivial⟩ ?_|refine CV cC (λr E=>by rw[C2.1 E];rfl) (by simp[bn,eG]) (by simp;omega) (by simp only[O1];exact zd (by simp;omega) (by decide)) rfl ?_)
  all_goals first
   | exact C1 (λz=>[B z]) ((lM (S:=S) (by rw[q];exact Hz a) (by assumption)).symm)
   | ((conv=>whnf)
      refine CG (i+1,S++[(nth sp i).R]) ⟨(by simp only;omega),(by simp only;rw[q,X7,a];simp),(di a d e),mw h (by assumption)⟩ (by simp only;omega) ?_
      (repeat'(first|exact trivial|rfl|exact CN rfl (CN (C1 (C.s dX.own) (by simp[rI])) trivial)|refine CN ?_ ?_)))
 obtain rfl:i=sp.length:=ω
 rw[C7]at d q
 refine ZE ?_
 refine CK (ι:=Nat × List Int) (λi=>[(1,.H .one (cJ .U la)),(5,.H .one (aH .own i.2)),(7,.H .one [I ((i.1:Nat):Int)])]) (λi=>i.1<=la.length/\i.2=pgs sp (la.take i.1)/\(la.take i.1).all bR=true/\i.2.Nodup/\i.2.length<=1048576+64*i.1) (λi=>la.length - i.1) ((0,S)) ?_ (⟨Z0 _,by grind [pgs],rfl,h,by simp only;omega⟩) λi o=>?_
 ·exact wB
 obtain⟨i,S2⟩:=i;obtain⟨F,l,b,g,G⟩:=o;simp only at F l b g G |-;by_cases w:i<la.length
 ·have a:=ar w
  have j:=pz (nth la i);cases e:bR (nth la i)<;>rw[e]at j
  ·refine ZE ?_
   exact C1 (λz=>[B z]) ((qG a e).symm)
  have M:=aW e
  refine ZE ?_
  refine CK (ι:=Nat × List Int) (λk=>[(1,.H .one (cJ .U la)),(5,.H .one (aH .own k.2)),(7,.H .one [I ((i:Nat):Int)]),(8,.H .one [I ((k.1:Nat):Int)])]) (λk=>k.1<=(nth la i).a4.toNat/\k.2=S2++lpgs (nth la i) k.1/\k.2.Nodup) (λk=>(nth la i).a4.toNat - k.1) ((0,S2)) ?_ (⟨Z0 _,by simp[lpgs],g⟩) λk H=>?_
  ·exact wB
  obtain⟨k,p⟩:=k;obtain⟨H,n,c⟩:=H;simp only at H n c |-;have N:p.length=S2.length+k:=by grind [Hq]
  by_cases O:k<(nth la i).a4.toNat
  ·repeat'(first|refine gE ?_|with_reducible refine Bf.D (λy=>?_) (λy=>?_)|refine CH (nP p _ ω) ⟨⟨rfl,dH _⟩,⟨rfl,rfl⟩,trivial⟩ ?_|refine CV cC (λr E=>by rw[C2.1 E];rfl) (by simp[bn,eG]) (by simp;omega) (by show _*8<=_;simp;omega) rfl ?_)
   all_goals first
    | exact C1 (λz=>[B z]) ((lM (S:=p) (by rw[n,l];exact DV a O) (by assumption)).symm)
    | ((conv=>whnf)
       refine CG (k+1,p++[(nth la i).R+(k:Nat)]) ⟨(by simp only;omega),(by simp only;rw[n,lR,Y7]),mw c (by assumption)⟩ (by simp only;omega) ?_
       (repeat'(first|exact trivial|rfl|exact CN rfl (CN (C1 (C.s dX.own) (by simp[rI])) trivial)|refine CN ?_ ?_)))
  obtain rfl:k=(nth la i).a4.toNat:=ω
  refine ZE ?_
  (refine CG (i+1,p) ⟨(by simp only;omega),(by grind [qa]),(di a b e),c,(by simp only;omega)⟩ (by simp only;omega) ?_;(exact wB))
 obtain rfl:i=la.length:=ω
 rw[C7]at b l
 refine ZE ?_
 exact C1 (λz=>[B z]) ((uz d b ψ).symm)
def ins(S:List Int)(p:Int):List Int:=if p∈S then S else S++[p]
theorem Mn{p:Int} : ∀{S:List Int},p∈S->mput (gF S) p (.bool true)=gF S
 | x::S,h=>by
  simp only[gF,I8,mput];by_cases a:x=p
  ·rw[CE a,a]
  rw[CC a];have:=Mn (S:=S) ((List.mem_cons.1 h).resolve_left λe=>a e.symm)
  grind [gF]
theorem zu(S:List Int)(p:Int):gF (ins S p)=mput (gF S) p (.bool true):=by grind [Mn,vt,ins]
theorem Rg(S:List Int)(p:Int):zzB 224 false [.val none [I p],.ptr [.m (gF S)]] [.val none [I p],.ptr [.m (gF (ins S p))]] .one [B (decide (p∉S))]:=by
 refine fM 12 [] [] [(0,0),(0,0)] Tryz.func224 rfl (λu q=>?_)
 repeat'(first|refine gP ?_|refine Ml.mk (oC p S) ?_|refine Mu.mk (zu S p) ?_)
 refine CL rfl ?_ ?_
 ·grind
 exact wB
theorem sw(sp:List aA)(la:List aE)(t:dY sp)(u:eD la):zzA 76 false [.val none (ce .U sp),.val none (cJ .U la)] .one [B (bx sp la)]:=by
 have F:=t.1;have G:=u.1;refine fP 54 [(224,[0,2])] [] Tryz.func76 rfl ?_
 refine ZP ?_
 refine CK (ι:=Nat × List Int) (λi=>[(1,.H .one (cJ .U la)),(5,.H .box [.m (gF i.2)]),(6,.fn 224 [5]),(14,.H .one (ce .U sp)),(15,.H .one [I (sp.length)]),(16,.H .one [I ((i.1:Nat):Int)])]) (λi=>i.1<=sp.length/\i.2=(sp.take i.1).map (·.R)/\(sp.take i.1).all bh=true/\i.2.Nodup) (λi=>sp.length - i.1) ((0,[])) ?_ ψ λi p=>?_
 ·exact wB
 obtain⟨i,S⟩:=i;obtain⟨p,r,e,j⟩:=p;simp only at p r e j |-;by_cases w:i<sp.length
 ·have c:=ar w
  have l:=iD (nth sp i);cases g:bh (nth sp i)<;>rw[g]at l
  ·refine ZE ?_
   exact C1 (λz=>[B z]) ((rV c g).symm)
  repeat'(first|refine gE ?_|with_reducible refine Bf.D (λy=>?_) (λy=>?_)|refine CM (Rg S _) (.inl rfl) ?_)
  all_goals first
   | exact C1 (λz=>[B z]) ((lM (S:=S) (by rw[r];exact Hz c) ψ).symm)
   |(have a:(nth sp i).R∉S:=by assumption
     (conv=>whnf)
     refine CG (i+1,ins S (nth sp i).R) ⟨(by simp only;omega),(by simp only;unfold ins;rw[CC a,r,X7,c];simp),(di c e g),(by simp only;unfold ins;rw[CC a];exact mw j a)⟩ (by simp only;omega) ?_
     (exact wA))
 obtain rfl:i=sp.length:=ω
 rw[C7]at e r
 refine ZE ?_
 refine CK (ι:=Nat × List Int) (λi=>[(5,.H .box [.m (gF i.2)]),(6,.fn 224 [5]),(31,.H .one (cJ .U la)),(32,.H .one [I (la.length)]),(33,.H .one [I ((i.1:Nat):Int)])]) (λi=>i.1<=la.length/\i.2=pgs sp (la.take i.1)/\(la.take i.1).all bR=true/\i.2.Nodup) (λi=>la.length - i.1) ((0,S)) ?_ (⟨Z0 _,by grind [pgs],rfl,j⟩) λi p=>?_
 ·exact wB
 obtain⟨i,S2⟩:=i;obtain⟨C,n,b,h⟩:=p;simp only at C n b h |-;by_cases w:i<la.length
 ·have c:=ar w
  have l:=uR (nth la i);cases g:bR (nth la i)<;>rw[g]at l
  ·refine ZE ?_
   exact C1 (λz=>[B z]) ((qG c g).symm)
  have H:=aW g
  refine ZE ?_
  refine CK (ι:=Nat × List Int) (λk=>[(5,.H .box [.m (gF k.2)]),(6,.fn 224 [5]),(10,.H .box (aE.enc .U (nth la i))),(11,.H .one [I ((k.1:Nat):Int)]),(31,.H .one (cJ .U la)),(32,.H .one [I (la.length)]),(33,.H .one [I ((i:Nat):Int)])]) (λk=>k.1<=(nth la i).a4.toNat/\k.2=S2++lpgs (nth la i) k.1/\k.2.Nodup) (λk=>(nth la i).a4.toNat - k.1) ((0,S2)) ?_ (⟨Z0 _,by simp[lpgs],h⟩) λk E=>?_
  ·exact wB
  obtain⟨k,q⟩:=k;obtain⟨E,o,d⟩:=E;simp only at E o d |-;by_cases J:k<(nth la i).a4.toNat
  ·repeat'(first|refine gE ?_|with_reducible refine Bf.D (λy=>?_) (λy=>?_)|refine CM (Rg q _) (.inl rfl) ?_)
   all_goals first
    | exact C1 (λz=>[B z]) ((lM (S:=q) (by rw[o,n];exact DV c J) ψ).symm)
    |(have a:(nth la i).R+(k:Nat)∉q:=by assumption
      (conv=>whnf)
      refine CG (k+1,ins q ((nth la i).R+(k:Nat))) ⟨(by simp only;omega),(by simp only;unfold ins;rw[CC a,o,lR,Y7]),(by simp only;unfold ins;rw[CC a];exact mw d a)⟩ (by simp only;omega) ?_
      (exact wA))
  obtain rfl:k=(nth la i).a4.toNat:=ω
  refine ZE ?_
  (refine CG (i+1,q) ⟨(by simp only;omega),(by grind [qa]),(di c b g),d⟩ (by simp only;omega) ?_;(exact wB))
 obtain rfl:i=la.length:=ω
 rw[C7]at b n
 refine ZE ?_
 exact C1 (λz=>[B z]) ((uz e b ψ).symm)
theorem aI(h:bh s=true):0<=s.R/\s.R<=31/\0<=s.d/\s.d<=3:=by grind [bh]
theorem cg{k:Int}(h:0<=k/\k<=3):csz k=1\/csz k=2\/csz k=4\/csz k=8:=by
 obtain rfl|rfl|rfl|rfl:k=0\/k=1\/k=2\/k=3:=ω
 all_goals decide
def mj{x y:Int}(h:0<=x):x.tdiv y=x / y:=Int.tdiv_eq_ediv_of_nonneg h
def eK{x y:Int}(h:0<=x):x.tmod y=x % y:=Int.tmod_eq_emod_of_nonneg h
def S2(p:Int × Int):List C:=[I p.1,I p.2]
variable{b:Int}
theorem DQ{p:Int × Int}(h:(a,b)=p):[I a,I b]=S2 p:=by subst h;rfl
theorem wR(s:aA)(a:Int)(k:oy a):zzA 473 false [.val (some 3) (aA.enc .U s),.val none [I a]] (.tup [none,none]) (S2 (jK s a)):=by
 have c:=iz s;have l:=eP s.d;obtain⟨n,o⟩:=k;cases d:bh s<;>rw[d]at c
 ·refine fO 33 [(4,12,[23,24,25,26,27,28,29,30,31,32,4,5])] Tryz.func473 rfl ?_ (.inr ⟨trivial,trivial,trivial⟩)
  refine ZP ?_
  exact DQ (by grind [jK,dq])
 have h:=aI d;have i:=cg ⟨h.2.2.1,h.2.2.2⟩;by_cases g:16*s.R<=a/\a<=16*s.R+15
 ·have j:0<=a:=ω
  refine fO 33 [(4,12,[23,24,25,26,27,28,29,30,31,32,4,5])] Tryz.func473 rfl ?_ (.inr ⟨trivial,trivial,trivial⟩)
  repeat'(first|refine gE ?_|with_reducible refine Bf.N (λb=>?_) (λb=>?_)|refine CQ (by decide) ?_|refine CQ ω ?_|refine CP ((C1 _ (mj j)).trans (fJ ω ω)) ?_|refine CU (eK j) ?_|refine CP ((C1 _ (mj ω)).trans (fJ (by rcases i with e|e|e|e<;>rw[e]<;>omega) (by rcases i with e|e|e|e<;>rw[e]<;>omega))) ?_|refine CU (eK ω) ?_)
  all_goals grind [DQ,jK,dq]
 refine fO 33 [(4,12,[23,24,25,26,27,28,29,30,31,32,4,5])] Tryz.func473 rfl ?_ (.inr ⟨trivial,trivial,trivial⟩)
 repeat'(first|refine gP ?_|with_reducible (first|refine Bf.D (λb=>?_) (λb=>?_)|refine Bf.N (λb=>?_) (λb=>?_))|refine CQ (by decide) ?_|refine CP ((C1 _ (mj ω)).trans (fJ ω ω)) ?_)
 all_goals first
  |exact DQ (by unfold jK dq;rw[d,X0 g];rfl)
  |(exfalso;omega)
theorem Jn(s:aA)(a:Int):zzA 379 false [.val (some 3) (aA.enc .U s),.val none [I a]] (.tup [none,none]) (S2 (jK s a)):=by
 have b:=iD s;have j:=eM s.d;cases c:bh s<;>rw[c]at b
 ·refine fO 38 [(4,12,[28,29,30,31,32,33,34,35,36,37,4,5])] Tryz.func379 rfl ?_ (.inr ⟨trivial,trivial,trivial⟩)
  refine ZP ?_
  exact DQ (by grind [jK,dq])
 have h:=aI c;have i:=cg ⟨h.2.2.1,h.2.2.2⟩;by_cases d:16*s.R<=a/\a<=16*s.R+15
 ·refine fO 38 [(4,12,[28,29,30,31,32,33,34,35,36,37,4,5])] Tryz.func379 rfl ?_ (.inr ⟨trivial,trivial,trivial⟩)
  repeat'(first|refine gE ?_|with_reducible refine Bf.D (λg=>?_) (λg=>?_)|refine CB (aN _ _ _) ?_|refine CQ ω ?_|refine CP ((C1 _ (mj ω)).trans (fJ (by rcases i with e|e|e|e<;>rw[e]<;>omega) (by rcases i with e|e|e|e<;>rw[e]<;>omega))) ?_|refine CU (eK ω) ?_)
  grind [DQ,jK,dq]
 refine fO 38 [(4,12,[28,29,30,31,32,33,34,35,36,37,4,5])] Tryz.func379 rfl ?_ (.inr ⟨trivial,trivial,trivial⟩)
 repeat'(first|refine gE ?_|with_reducible refine Bf.D (λg=>?_) (λg=>?_)|refine CB (aN _ _ _) ?_)
 all_goals exact DQ (by unfold jK dq;rw[c,X0 d];rfl)
def rG(b i:Int):zzA 547 false [.val none [I b],.val none [I i]] .one [B (decide (0<=b/\0<=i/\i<=15))]:=by
 refine fO 11 [] Tryz.func547 rfl ?_
 repeat'(first|refine gP ?_|with_reducible refine Bf.D (λa=>?_) (λa=>?_)|refine CB (aK _ 0 15) ?_)
 all_goals exact C1 (λz=>[B z]) ((by first|(symm;exact X0 ω)|exact decide_eq_decide.2 ω))
def rj(b i:Int):zzA 457 false [.val none [I b],.val none [I i]] .one [B (decide (0<=b/\0<=i/\i<=15))]:=by
 refine fO 11 [] Tryz.func457 rfl ?_
 repeat'(first|refine gP ?_|with_reducible refine Bf.D (λa=>?_) (λa=>?_)|refine CB (aN _ 0 15) ?_)
 all_goals exact C1 (λz=>[B z]) ((by first|(symm;exact X0 ω)|exact decide_eq_decide.2 ω))
theorem QQ{i:Int}(a:0<=b/\b<=9223372036854775807)(e:0<=i/\i<=15):b.fdiv (2 ^ min i.toNat IntKind.i64.bits)=b / 2 ^ i.toNat/\0<=b / 2 ^ i.toNat/\b / 2 ^ i.toNat<=9223372036854775807:=by
 have d:min i.toNat IntKind.i64.bits=i.toNat:=Nat.min_eq_left (show i.toNat<=64 by omega);rw[d];have c:(0:Int)<=2 ^ i.toNat:=ψ
 refine⟨Int.fdiv_eq_ediv_of_nonneg _ c,Int.ediv_nonneg a.1 c,?_⟩;have:=Int.ediv_le_self (2 ^ i.toNat:Int) a.1;omega
theorem zm{i:Int}(a:0<=b)(c:0<=i/\i<=15):((((b / 2 ^ i.toNat).toNat &&& (1:Int).toNat:Nat):Int) == 1)=bf b i:=by
 have d:(0:Int)<=b / 2 ^ i.toNat:=Int.ediv_nonneg a ψ
 grind [bf]
theorem jN(b i:Int)(c:b<=9223372036854775807):zzA 474 false [.val none [I b],.val none [I i]] .one [B (bf b i)]:=by
 by_cases h:0<=b/\0<=i/\i<=15
 ·obtain⟨d,g⟩:=QQ (b:=b) (i:=i) ⟨h.1,c⟩ h.2
  have j:IntKind.u64.wrap i=i:=by grind [Go.IntKind.wrap,Go.IntKind.bits]
  refine fO 16 [] Tryz.func474 rfl ?_
  repeat'(first|refine gE ?_|with_reducible refine Bf.D (λa=>?_) (λa=>?_)|refine CB (rG _ _) ?_|refine CQ ω ?_|refine CP j ?_|refine CU d ?_|refine CP (and64 g ⟨by decide,by decide⟩) ?_)
  grind [zm]
 refine fO 16 [] Tryz.func474 rfl ?_
 repeat'(first|refine gE ?_|with_reducible refine Bf.D (λa=>?_) (λa=>?_)|refine CB (rG _ _) ?_)
 all_goals exact C1 (λz=>[B z]) ((by unfold bf;symm;exact X0 λe=>h ⟨e.1,e.2.1,e.2.2.1⟩))
theorem iJ(b i:Int)(c:b<=9223372036854775807):zzA 380 false [.val none [I b],.val none [I i]] .one [B (bf b i)]:=by
 by_cases h:0<=b/\0<=i/\i<=15
 ·obtain⟨d,g⟩:=QQ (b:=b) (i:=i) ⟨h.1,c⟩ h.2
  refine fO 15 [] Tryz.func380 rfl ?_
  repeat'(first|refine gE ?_|with_reducible refine Bf.D (λa=>?_) (λa=>?_)|refine CB (rj _ _) ?_|refine CQ ω ?_|refine CU d ?_|refine CP (and64 g ⟨by decide,by decide⟩) ?_)
  grind [zm]
 refine fO 15 [] Tryz.func380 rfl ?_
 repeat'(first|refine gE ?_|with_reducible refine Bf.D (λa=>?_) (λa=>?_)|refine CB (rj _ _) ?_)
 all_goals exact C1 (λz=>[B z]) ((by unfold bf;symm;exact X0 λe=>h ⟨e.1,e.2.1,e.2.2.1⟩))
theorem de{l:aE}(h:bR l=true):9<=l.y/\l.y<=1000/\0<=l.R/\l.R<=31:=by grind [bR]
theorem rX(l:aE)(a:Int):zzA 475 false [.val (some 3) (aE.enc .U l),.val none [I a]] .one [B (bM l a)]:=by
 have b:=pz l;cases c:bR l<;>rw[c]at b
 ·refine fO 24 [] Tryz.func475 rfl ?_
  refine ZP ?_
  exact C1 (λz=>[B z]) ((by grind [bM]))
 have e:=de c;refine fO 24 [] Tryz.func475 rfl ?_
 repeat'(first|refine gP ?_|with_reducible refine Bf.D (λd=>?_) (λd=>?_))
 all_goals exact C1 (λz=>[B z]) ((by unfold bM;rw[c,Bool.true_and];first|(symm;exact X0 ω)|exact decide_eq_decide.2 ω))
theorem rP(l:aE)(a:Int):zzA 381 false [.val (some 3) (aE.enc .U l),.val none [I a]] .one [B (bM l a)]:=by
 have b:=uR l;cases c:bR l<;>rw[c]at b
 ·refine fO 21 [] Tryz.func381 rfl ?_
  refine ZP ?_
  exact C1 (λz=>[B z]) ((by grind [bM]))
 have e:=de c;refine fO 21 [] Tryz.func381 rfl ?_
 repeat'(first|refine gP ?_|with_reducible refine Bf.D (λd=>?_) (λd=>?_)|refine CB (aN _ _ _) ?_)
 grind [bM]
theorem w5(l:aE)(a:Int)(h:bM l a=true):zzA 476 false [.val (some 3) (aE.enc .U l),.val none [I a]] .one [I (a - 16*l.R)]:=by
 have b:=rX l a;rw[h]at b;unfold bM at h;simp only[I0,C0]at h;have c:=de h.1;refine fO 14 [] Tryz.func476 rfl ?_
 refine ZP ?_
 grind
theorem vT(l:aE)(a:Int)(h:bM l a=true):zzA 382 false [.val (some 3) (aE.enc .U l),.val none [I a]] .one [I (a - 16*l.R)]:=by
 have b:=rP l a;rw[h]at b;unfold bM at h;simp only[I0,C0]at h;have c:=de h.1;refine fO 14 [] Tryz.func382 rfl ?_
 refine ZP ?_
 grind
variable{m:aP}
theorem rn(a:i<m.V.length)(h:iF m i=false):bT m=false:=by grind [cK,bT]
theorem yF(h:¬(1<=m.V.length/\m.V.length<=4/\m.a2.length=m.V.length)):bT m=false:=by grind [bT]
theorem zv(h1:1<=m.V.length/\m.V.length<=4/\m.a2.length=m.V.length)(a:dv m.V.length (iF m)=true):bT m=decide (bI m m.V.length<=30):=by grind [bT]
theorem mV(m:aP)(h:aP.sml m):zzA 111 false [.val (some 2) (aP.enc .U m)] .one [B (bT m)]:=by
 have r:m.V.length<=1048576:=h.1.1;have t:m.a2.length<=1048576:=h.2.1;by_cases u:1<=m.V.length/\m.V.length<=4/\m.a2.length=m.V.length
 ·refine fO 92 [(19,15,[75,76,77,78,79,80,81,82,83,84,85,86,87,88,89])] Tryz.func111 rfl ?_
  repeat'(first|refine gB ?_|with_reducible (first|refine Bf.D (λa=>?_) (λa=>?_)|refine Bf.N (λa=>?_) (λa=>?_))|refine CB (aK _ 1 4) ?_)
  refine CK (ι:=Nat) (λi=>[(1,.H .box (aP.enc .U m)),(3,.H .one [I (m.V.length)]),(4,.H .one [I (bI m i)]),(5,.H .one [I ((i:Nat):Int)])]) (λi=>i<=m.V.length/\dv i (iF m)=true/\0<=bI m i/\bI m i<=2097152*i) (λi=>m.V.length - i) (0) ?_ (⟨Z0 _,rfl,by simp[bI],by simp[bI]⟩) λi n=>?_
  ·exact wB
  obtain⟨n,w,F,G⟩:=n;by_cases j:i<m.V.length
  ·have l:=ar j
   have o:=ar (xs:=m.a2) (i:=i) ω;have y:(nth m.V i).length<=1048576:=(h.1.2 _ (au j)).1;have C:(nth m.a2 i).length<=1048576:=h.2.2 _ ψ
   refine ZE ?_
   refine CK (ι:=Nat) (λk=>[(1,.H .box (aP.enc .U m)),(3,.H .one [I (m.V.length)]),(4,.H .one [I (bI m i)]),(5,.H .one [I ((i:Nat):Int)]),(6,.H .one [I ((k:Nat):Int)])]) (λk=>k<=(nth m.V i).length/\((nth m.V i).take k).all (o6 m.V.length)=true) (λk=>(nth m.V i).length - k) (0) ?_ ψ λk p=>?_
   ·exact wB
   obtain⟨p,q⟩:=p;by_cases E:k<(nth m.V i).length
   ·have c:=ar E
    repeat'(first|refine gE ?_|with_reducible refine Bf.D (λa=>?_) (λa=>?_)|refine CB (aK _ 0 _) ?_)
    all_goals first
     | exact C1 (λz=>[B z]) ((rn j (by unfold iF;rw[iA c (by unfold o6;exact X0 ω)];rfl)).symm)
     | ((conv=>whnf);refine CG (k+1) ⟨ω,di c q (by unfold o6;exact O0 ω)⟩ ω ?_;(exact wB))
   have H:=po ω q
   refine ZE ?_
   refine CK (ι:=Nat) (λb=>[(1,.H .box (aP.enc .U m)),(3,.H .one [I (m.V.length)]),(4,.H .one [I (bI m i)]),(5,.H .one [I ((i:Nat):Int)]),(8,.H .one [I ((b:Nat):Int)])]) (λb=>b<=(nth m.a2 i).length/\((nth m.a2 i).take b).all Tz=true) (λb=>(nth m.a2 i).length - b) (0) ?_ ψ λb e=>?_
   ·exact wB
   obtain⟨e,ak2⟩:=e;by_cases lk2:b<(nth m.a2 i).length
   ·have c:=ar lk2
    repeat'(first|refine gE ?_|with_reducible refine Bf.D (λa=>?_) (λa=>?_))
    all_goals first
     | exact C1 (λz=>[B z]) ((rn j (by unfold iF;rw[iA c (by unfold Tz;exact X0 ω)];simp)).symm)
     | ((conv=>whnf);refine CG (b+1) ⟨ω,di c ak2 (by unfold Tz;exact O0 ω)⟩ ω ?_;(exact wB))
   have ae2:=po ω ak2;have g:bI m (i+1)=bI m i+((nth m.V i).length+(nth m.a2 i).length):=rfl;have d:bI m (i+1)=bI m i+(nth m.V i).length+(nth m.a2 i).length:=by rw[g];omega
   refine ZE ?_
   (refine CG (i+1) ⟨ω,bZ w (by grind [iF]),ω,ω⟩ ω ?_)
   rw[d];exact wB
  obtain rfl:i=m.V.length:=ω
  refine ZE ?_
  grind [zv]
 refine fO 92 [(19,15,[75,76,77,78,79,80,81,82,83,84,85,86,87,88,89])] Tryz.func111 rfl ?_
 repeat'(first|refine gP ?_|with_reducible (first|refine Bf.D (λa=>?_) (λa=>?_)|refine Bf.N (λa=>?_) (λa=>?_))|refine CB (aK _ 1 4) ?_)
 all_goals first
  | exact C1 (λz=>[B z]) ((yF u).symm)
  |(exfalso;omega)
theorem w9(m:aP)(g:aP.sml m):zzA 78 false [.val (some 2) (aP.enc .U m)] .one [B (bT m)]:=by
 have q:m.V.length<=1048576:=g.1.1;have r:m.a2.length<=1048576:=g.2.1;by_cases t:1<=m.V.length/\m.V.length<=4/\m.a2.length=m.V.length
 ·refine fO 82 [(20,15,[64,65,66,67,68,69,70,71,72,73,74,75,76,77,78])] Tryz.func78 rfl ?_
  repeat'(first|refine gB ?_|with_reducible (first|refine Bf.D (λa=>?_) (λa=>?_)|refine Bf.N (λa=>?_) (λa=>?_))|refine CB (aN _ 1 4) ?_)
  refine CK (ι:=Nat) (λi=>[(1,.H .box (aP.enc .U m)),(3,.H .one [I (m.V.length)]),(4,.H .one [I (bI m i)]),(25,.H .one [I (m.V.length)]),(26,.H .one [I ((i:Nat):Int)])]) (λi=>i<=m.V.length/\dv i (iF m)=true/\0<=bI m i/\bI m i<=2097152*i) (λi=>m.V.length - i) (0) ?_ (⟨Z0 _,rfl,by simp[bI],by simp[bI]⟩) λi n=>?_
  ·exact wB
  obtain⟨n,u,E,F⟩:=n;by_cases h:i<m.V.length
  ·have j:=ar h
   have l:=ar (xs:=m.a2) (i:=i) ω;have w:(nth m.V i).length<=1048576:=(g.1.2 _ (au h)).1;have y:(nth m.a2 i).length<=1048576:=g.2.2 _ ψ
   refine ZE ?_
   refine CK (ι:=Nat) (λk=>[(1,.H .box (aP.enc .U m)),(3,.H .one [I (m.V.length)]),(4,.H .one [I (bI m i)]),(5,.H .one [I ((i:Nat):Int)]),(25,.H .one [I (m.V.length)]),(26,.H .one [I ((i:Nat):Int)]),(33,.H .one (cL .U (nth m.V i))),(34,.H .one [I ((nth m.V i).length)]),(35,.H .one [I ((k:Nat):Int)])]) (λk=>k<=(nth m.V i).length/\((nth m.V i).take k).all (o6 m.V.length)=true) (λk=>(nth m.V i).length - k) (0) ?_ ψ λk o=>?_
   ·exact wB
   obtain⟨o,p⟩:=o;by_cases C:k<(nth m.V i).length
   ·have c:=ar C
    repeat'(first|refine gE ?_|with_reducible refine Bf.D (λa=>?_) (λa=>?_)|refine CB (aN _ 0 _) ?_)
    all_goals first
     | exact C1 (λz=>[B z]) ((rn h (by unfold iF;rw[iA c (by unfold o6;exact X0 ω)];rfl)).symm)
     | ((conv=>whnf);refine CG (k+1) ⟨ω,di c p (by unfold o6;exact O0 ω)⟩ ω ?_;(exact wB))
   have G:=po ω p
   refine ZE ?_
   refine CK (ι:=Nat) (λb=>[(1,.H .box (aP.enc .U m)),(3,.H .one [I (m.V.length)]),(4,.H .one [I (bI m i)]),(5,.H .one [I ((i:Nat):Int)]),(25,.H .one [I (m.V.length)]),(26,.H .one [I ((i:Nat):Int)]),(55,.H .one (aH .U (nth m.a2 i))),(56,.H .one [I ((nth m.a2 i).length)]),(57,.H .one [I ((b:Nat):Int)])]) (λb=>b<=(nth m.a2 i).length/\((nth m.a2 i).take b).all Tz=true) (λb=>(nth m.a2 i).length - b) (0) ?_ ψ λb d=>?_
   ·exact wB
   obtain⟨d,ak2⟩:=d;by_cases lk2:b<(nth m.a2 i).length
   ·have c:=ar lk2
    repeat'(first|refine gE ?_|with_reducible refine Bf.D (λa=>?_) (λa=>?_))
    all_goals first
     | exact C1 (λz=>[B z]) ((rn h (by unfold iF;rw[iA c (by unfold Tz;exact X0 ω)];simp)).symm)
     | ((conv=>whnf);refine CG (b+1) ⟨ω,di c ak2 (by unfold Tz;exact O0 ω)⟩ ω ?_;(exact wB))
   have ae2:=po ω ak2;have e:bI m (i+1)=bI m i+((nth m.V i).length+(nth m.a2 i).length):=rfl
   refine ZE ?_
   (refine CG (i+1) ⟨ω,bZ u (by grind [iF]),ω,ω⟩ ω ?_)
   rw[e];exact wB
  obtain rfl:i=m.V.length:=ω
  refine ZE ?_
  grind [zv]
 refine fO 82 [(20,15,[64,65,66,67,68,69,70,71,72,73,74,75,76,77,78])] Tryz.func78 rfl ?_
 repeat'(first|refine gP ?_|with_reducible (first|refine Bf.D (λa=>?_) (λa=>?_)|refine Bf.N (λa=>?_) (λa=>?_))|refine CB (aN _ 1 4) ?_)
 all_goals first
  | exact C1 (λz=>[B z]) ((yF t).symm)
  |(exfalso;omega)
def D0(h:dq s a=false):S2 (jK s a)=[I (-1),I (-1)]:=by
 unfold jK;rw[h];rfl
def yJ(h:dq s a=true):S2 (jK s a)=[I ((a - 16*s.R) / csz s.d),I ((a - 16*s.R) % csz s.d)]:=by
 unfold jK;rw[h];rfl
theorem uL(h:dq s a=true):bh s=true/\0<=(a - 16*s.R) / csz s.d/\(a - 16*s.R) / csz s.d<=15:=by
 unfold dq at h;simp only[I0,C0]at h;have b:=aI h.1
 grind [cg]
def pd(b:i<sp.length)(h:dq (nth sp i) a=true)(c:∀(j:Nat)(z:aA),j<i->sp[j]? = some z->dq z a=false):denotes sp la a=pu i (nth sp i) a:=by
 unfold denotes;rw[xT (pr:=(dq · a)) (ar b) h c]
def nu(b:sp.length<=n)(c:∀(j:Nat)(z:aA),j<n->sp[j]? = some z->dq z a=false)(d:i<la.length)(h:bM (nth la i) a=true)(e:∀(j:Nat)(z:aE),j<i->la[j]? = some z->bM z a=false) :
  denotes sp la a = ⟨3,i,0,a - 16*(nth la i).R⟩:=by
 unfold denotes;rw[G0 (pr:=(dq · a)) b c,xT (pr:=(bM · a)) (ar d) h e]
theorem zE(b:sp.length<=n)(c:∀(j:Nat)(z:aA),j<n->sp[j]? = some z->dq z a=false)(d:la.length<=k)(e:∀(j:Nat)(z:aE),j<k->la[j]? = some z->bM z a=false):denotes sp la a = ⟨0,0,0,0⟩:=by grind [G0,denotes]
theorem oH(sp:List aA)(la:List aE)(a:Int)(d:dY sp)(e:eD la)(g:bx sp la=true)(C:oy a):zzA 362 false [.val none (ce .U sp),.val none (cJ .U la),.val none [I a]] .agg (kD.enc .own (denotes sp la a)):=by
 have E:=d.1;have F:=e.1;have p:=n9 sp la d e;rw[g]at p;refine fO 67 [] Tryz.func362 rfl ?_ (.inr (kD.enc_fr _))
 refine ZP ?_
 refine CK (ι:=Nat) (λi=>[(0,.H .one (ce .U sp)),(1,.H .one (cJ .U la)),(2,.H .one [I (a)]),(6,.H .box ([I 0,I 0,I 0,I 0])),(7,.H .one [I ((i:Nat):Int)])]) (λi=>i<=sp.length/\∀(j:Nat)(z:aA),j<i->sp[j]? = some z->dq z a=false) (λi=>sp.length - i) (0) ?_ ψ λi q=>?_
 ·exact wB
 obtain⟨q,l⟩:=q;by_cases r:i<sp.length
 ·have h:=ar r
  have b:=wR (nth sp i) a C;cases c:dq (nth sp i) a with
  | false=>
   rw[D0 c]at b
   repeat'(first|refine gE ?_|with_reducible refine Bf.D (λo=>?_) (λo=>?_))
   (refine CG (i+1) ψ ω ?_;(exact wB))
  | true=>
   rw[yJ c]at b;obtain⟨G,H,J⟩:=uL c;have t:=jN (nth sp i).a9 ((a - 16*(nth sp i).R) / csz (nth sp i).d) (fX G).2;cases u:bf (nth sp i).a9 ((a - 16*(nth sp i).R) / csz (nth sp i).d)<;>rw[u]at t
   all_goals
    repeat'(first|refine gE ?_|with_reducible refine Bf.D (λo=>?_) (λo=>?_))
    all_goals(rw[pd r c l];unfold pu;rw[u];rfl)
 refine ZE ?_
 refine CK (ι:=Nat) (λk=>[(1,.H .one (cJ .U la)),(2,.H .one [I (a)]),(6,.H .box ([I 0,I 0,I 0,I 0])),(11,.H .one [I ((k:Nat):Int)])]) (λk=>k<=la.length/\∀(j:Nat)(z:aE),j<k->la[j]? = some z->bM z a=false) (λk=>la.length - k) (0) ?_ ψ λk w=>?_
 ·exact wB
 obtain⟨w,y⟩:=w;by_cases B:k<la.length
 ·have h:=ar B
  have b:=rX (nth la k) a;cases c:bM (nth la k) a<;>rw[c]at b
  ·refine ZE ?_
   (refine CG (k+1) ψ ω ?_;(exact wB))
  repeat'(first|refine gE ?_|refine CB (w5 (nth la k) a c) ?_)
  rw[nu (n:=i) ω l B c y];rfl
 refine ZE ?_
 rw[zE (n:=i) (k:=k) ω l ω y];rfl
theorem oR(sp:List aA)(la:List aE)(a:Int)(e:dY sp)(g:eD la):zzA 235 false [.val none (ce .U sp),.val none (cJ .U la),.val none [I a]] .agg (kD.enc .own (denotes sp la a)):=by
 have y:=e.1;have B:=g.1;refine fO 56 [] Tryz.func235 rfl ?_ (.inr (kD.enc_fr _))
 refine ZP ?_
 refine CK (ι:=Nat) (λi=>[(1,.H .one (cJ .U la)),(2,.H .one [I (a)]),(6,.H .box ([I 0,I 0,I 0,I 0])),(14,.H .one (ce .U sp)),(15,.H .one [I (sp.length)]),(16,.H .one [I ((i:Nat):Int)])]) (λi=>i<=sp.length/\∀(j:Nat)(z:aA),j<i->sp[j]? = some z->dq z a=false) (λi=>sp.length - i) (0) ?_ ψ λi o=>?_
 ·exact wB
 obtain⟨o,h⟩:=o;by_cases p:i<sp.length
 ·have d:=ar p
  have b:=Jn (nth sp i) a;cases c:dq (nth sp i) a with
  | false=>
   rw[D0 c]at b
   repeat'(first|refine gE ?_|with_reducible refine Bf.D (λl=>?_) (λl=>?_))
   (refine CG (i+1) ψ ω ?_;(exact wB))
  | true=>
   rw[yJ c]at b;obtain⟨C,E,F⟩:=uL c;have q:=iJ (nth sp i).a9 ((a - 16*(nth sp i).R) / csz (nth sp i).d) (fX C).2;cases r:bf (nth sp i).a9 ((a - 16*(nth sp i).R) / csz (nth sp i).d)<;>rw[r]at q
   all_goals
    repeat'(first|refine gE ?_|with_reducible refine Bf.D (λl=>?_) (λl=>?_))
    all_goals(rw[pd p c h];unfold pu;rw[r];rfl)
 refine ZE ?_
 refine CK (ι:=Nat) (λk=>[(2,.H .one [I (a)]),(6,.H .box ([I 0,I 0,I 0,I 0])),(39,.H .one (cJ .U la)),(40,.H .one [I (la.length)]),(41,.H .one [I ((k:Nat):Int)])]) (λk=>k<=la.length/\∀(j:Nat)(z:aE),j<k->la[j]? = some z->bM z a=false) (λk=>la.length - k) (0) ?_ ψ λk t=>?_
 ·exact wB
 obtain⟨t,u⟩:=t;by_cases w:k<la.length
 ·have d:=ar w
  have b:=rP (nth la k) a;cases c:bM (nth la k) a<;>rw[c]at b
  ·refine ZE ?_
   (refine CG (k+1) ψ ω ?_;(exact wB))
  repeat'(first|refine gE ?_|refine CB (vT (nth la k) a c) ?_)
  rw[nu (n:=i) ω h w c u];rfl
 refine ZE ?_
 rw[zE (n:=i) (k:=k) ω h ω u];rfl
section
variable{α:Type}
def Bv(ag:Option Nat)(e:α->List C)(pr:α->Bool)(xs:List α):List (Option Nat × List C)->Kd->List C->Prop:=λL k rcs=>∃x,x∈xs/\L=[(ag,e x)]/\k=.one/\rcs=[B (pr x)]
end
def x8(xs:List aB)(pr:aB->Bool)(n:xs.length<=9223372036854775807):zzA 487 false [.val none (bt .U xs),.fn (pX Tryz.prog (Bv (some 2) (aB.enc .U) pr xs))] .one [I (cV pr xs)]:=by
 refine fO 19 [] Tryz.func487 rfl ?_
 refine ZP ?_
 refine CK (ι:=Nat) (λi=>[(0,.H .one (bt .U xs)),(1,.fv (pX Tryz.prog (Bv (some 2) (aB.enc .U) pr xs))),(7,.H .one [I xs.length]),(8,.H .one [I (i:Nat)])]) (λi=>i<=xs.length/\∀(j:Nat)(z:aB),j<i->xs[j]? = some z->pr z=false) (λi=>xs.length - i) 0 ?_ ⟨Z0 _,λj z h=>ω⟩ λi e=>?_
 ·exact wB
 obtain⟨e,b⟩:=e;by_cases c:i<xs.length
 ·obtain⟨y,a⟩ : ∃y,xs[i]? = some y:=⟨_,C3 c⟩
  repeat'(first|refine gE ?_|refine Fv.mk (k:=.one) (rcs:=[B (pr y)]) ⟨y,Z2 a,rfl,rfl,rfl⟩ ?_|refine Bf.P (λl=>?_) (λl=>?_))
  ·exact C1 (λz=>[I z]) (dE a ‹_› b).symm
  (conv=>whnf)
  refine CG (i+1) ⟨ω,λj z h d=>?_⟩ ω ?_
  ·rcases Nat.lt_or_ge j i with g|g
   ·exact b j z g d
   obtain rfl:j=i:=ω
   rw[a]at d;cases d;assumption
  exact wB
 refine ZE ?_
 exact C1 (λz=>[I z]) (gv ω b).symm
theorem sO(xs:List aB)(pr:aB->Bool)(a:xs.length<=9223372036854775807):zzA 376 false [.val none (bt .U xs),.fn (pX Tryz.prog (Bv (some 2) (aB.enc .U) pr xs))] .one [B (xs.any pr)]:=by
 refine fO 9 [] Tryz.func376 rfl ?_
 repeat'(first|refine gP ?_|refine CB (x8 xs pr a) ?_)
 grind [lY]
def xq(r:aB)(page:Int):zzA 377 false [.val (some 2) (aB.enc .U r),.ptr [I page]] .one [B (xw page r)]:=by
 refine fO 17 [] Tryz.func377 rfl ?_
 repeat'(first|refine gP ?_|with_reducible refine Bf.D (λa=>?_) (λa=>?_)|refine CP rfl ?_)
 all_goals exact C1 (λz=>[B z]) (by unfold xw;first|(rw[O0 (by assumption:r.At<=page)];simp;done)|(rw[X0 (by assumption:¬r.At<=page)];rfl))
def Bp(xs:List aB)(page:Int)(a:xs.length<=9223372036854775807):zzA 228 false [.val none (bt .U xs),.val none [I page]] .one [B (xs.any (xw page))]:=by
 refine fO 8 [] Tryz.func228 rfl ?_
 repeat'(first|refine gP ?_|refine Cq.mk (Bv (some 2) (aB.enc .U) (xw page) xs) (xq default page).has (λL k rcs b=>?_) ?_|refine CB (sO xs (xw page) a) ?_)
 ·obtain⟨x,-,rfl,rfl,rfl⟩:=b
  exact xq x page
 rfl
theorem xF(xs:List aT)(pr:aT->Bool)(g:xs.length<=9223372036854775807):zzA 549 false [.val none (dm .U xs),.fn (pX Tryz.prog (Bv (some 3) (aT.enc .U) pr xs))] .one [I (cV pr xs)]:=by
 refine fO 19 [] Tryz.func549 rfl ?_
 refine ZP ?_
 refine CK (ι:=Nat) (λi=>[(0,.H .one (dm .U xs)),(1,.fv (pX Tryz.prog (Bv (some 3) (aT.enc .U) pr xs))),(7,.H .one [I xs.length]),(8,.H .one [I (i:Nat)])]) (λi=>i<=xs.length/\∀(j:Nat)(z:aT),j<i->xs[j]? = some z->pr z=false) (λi=>xs.length - i) 0 ?_ ψ λi b=>?_
 ·exact wB
 obtain⟨b,d⟩:=b;by_cases a:i<xs.length
 ·obtain⟨y,c⟩ : ∃y,xs[i]? = some y:=⟨_,C3 a⟩
  repeat'(first|refine gE ?_|refine Fv.mk (k:=.one) (rcs:=[B (pr y)]) ⟨y,Z2 c,rfl,rfl,rfl⟩ ?_|refine Bf.P (λe=>?_) (λe=>?_))
  ·grind [dE]
  (conv=>whnf)
  refine CG (i+1) ψ ω ?_;exact wB
 refine ZE ?_
 exact C1 (λz=>[I z]) (gv ω d).symm
theorem tF(xs:List aT)(pr:aT->Bool)(a:xs.length<=9223372036854775807):zzA 488 false [.val none (dm .U xs),.fn (pX Tryz.prog (Bv (some 3) (aT.enc .U) pr xs))] .one [B (xs.any pr)]:=by
 refine fO 9 [] Tryz.func488 rfl ?_
 repeat'(first|refine gP ?_|refine CB (xF xs pr a) ?_)
 grind [lY]
theorem yK(xs:List aA)(pr:aA->Bool)(g:xs.length<=9223372036854775807):zzA 240 false [.val none (ce .U xs),.fn (pX Tryz.prog (Bv (some 3) (aA.enc .U) pr xs))] .one [I (cV pr xs)]:=by
 refine fO 19 [] Tryz.func240 rfl ?_
 refine ZP ?_
 refine CK (ι:=Nat) (λi=>[(0,.H .one (ce .U xs)),(1,.fv (pX Tryz.prog (Bv (some 3) (aA.enc .U) pr xs))),(7,.H .one [I xs.length]),(8,.H .one [I (i:Nat)])]) (λi=>i<=xs.length/\∀(j:Nat)(z:aA),j<i->xs[j]? = some z->pr z=false) (λi=>xs.length - i) 0 ?_ ψ λi b=>?_
 ·exact wB
 obtain⟨b,d⟩:=b;by_cases a:i<xs.length
 ·obtain⟨y,c⟩ : ∃y,xs[i]? = some y:=⟨_,C3 a⟩
  repeat'(first|refine gE ?_|refine Fv.mk (k:=.one) (rcs:=[B (pr y)]) ⟨y,Z2 c,rfl,rfl,rfl⟩ ?_|refine Bf.P (λe=>?_) (λe=>?_))
  ·grind [dE]
  (conv=>whnf)
  refine CG (i+1) ψ ω ?_;exact wB
 refine ZE ?_
 exact C1 (λz=>[I z]) (gv ω d).symm
theorem sH(xs:List bu)(pr:bu->Bool)(g:xs.length<=9223372036854775807):zzA 88 false [.val none (oG .U xs),.fn (pX Tryz.prog (Bv (some 4) (bu.enc .U) pr xs))] .one [I (cV pr xs)]:=by
 refine fO 19 [] Tryz.func88 rfl ?_
 refine ZP ?_
 refine CK (ι:=Nat) (λi=>[(0,.H .one (oG .U xs)),(1,.fv (pX Tryz.prog (Bv (some 4) (bu.enc .U) pr xs))),(7,.H .one [I xs.length]),(8,.H .one [I (i:Nat)])]) (λi=>i<=xs.length/\∀(j:Nat)(z:bu),j<i->xs[j]? = some z->pr z=false) (λi=>xs.length - i) 0 ?_ ψ λi b=>?_
 ·exact wB
 obtain⟨b,d⟩:=b;by_cases a:i<xs.length
 ·obtain⟨y,c⟩ : ∃y,xs[i]? = some y:=⟨_,C3 a⟩
  repeat'(first|refine gE ?_|refine Fv.mk (k:=.one) (rcs:=[B (pr y)]) ⟨y,Z2 c,rfl,rfl,rfl⟩ ?_|refine Bf.P (λe=>?_) (λe=>?_))
  ·grind [dE]
  (conv=>whnf)
  refine CG (i+1) ψ ω ?_;exact wB
 refine ZE ?_
 exact C1 (λz=>[I z]) (gv ω d).symm
theorem vF(xs:List bu)(pr:bu->Bool)(a:xs.length<=9223372036854775807):zzA 233 false [.val none (oG .U xs),.fn (pX Tryz.prog (Bv (some 4) (bu.enc .U) pr xs))] .one [B (xs.any pr)]:=by
 refine fO 9 [] Tryz.func233 rfl ?_
 repeat'(first|refine gP ?_|refine CB (sH xs pr a) ?_)
 grind [lY]
def Uy(a:k<=3):IntKind.i64.wrap (1*2 ^ min ((k:Nat):Int).toNat IntKind.i64.bits)=csz (k:Nat):=by
 obtain rfl|rfl|rfl|rfl:k=0\/k=1\/k=2\/k=3:=ω
 all_goals decide
theorem TO(a:k<=100):IntKind.u64.wrap (k:Nat)=(k:Nat):=by grind [Go.IntKind.wrap,Go.IntKind.bits]
theorem Fb(a:k<=3)(h:csz (k:Nat)<z)(b:z<=8):k<=2:=by
 have c:csz ((3:Nat):Int)=8:=by decide
 grind
theorem zz(a:k<=3)(h1:1<=z)(b:k=0\/csz ((k - 1:Nat):Int)<z)(c:¬csz (k:Nat)<z):aL z=(k:Nat):=by
 have d:csz ((0:Nat):Int)=1:=by decide
 have e:csz ((1:Nat):Int)=2:=by decide
 have f:csz ((2:Nat):Int)=4:=by decide
 have g:csz ((3:Nat):Int)=8:=by decide
 unfold aL;obtain rfl|rfl|rfl|rfl:k=0\/k=1\/k=2\/k=3:=ω
 all_goals grind
def lQ(z:Int):zzA 220 false [.val none [I z]] .one [I (aL z)]:=by
 refine fO 15 [] Tryz.func220 rfl ?_;by_cases c:1<=z/\z<=8
 ·repeat'(first|refine gE ?_|with_reducible refine Bf.D (λb=>?_) (λb=>?_)|refine CB (aK z 1 8) ?_)
  refine CK (ι:=Nat) (λk=>[(0,.H .one [I (z)]),(3,.H .one [I ((k:Nat):Int)])]) (λk=>k<=3/\(k=0\/csz ((k - 1:Nat):Int)<z)) (λk=>4 - k) (0) ?_ ω λk a=>?_
  ·exact wB
  obtain⟨a,d⟩:=a
  repeat'(first|refine gP ?_|with_reducible refine Bf.D (λb=>?_) (λb=>?_)|refine CP (TO ω) ?_|refine CP (Uy a) ?_|refine CQ ω ?_)
  all_goals first
   | exact C1 (λz=>[I z]) (zz a c.1 d (by assumption)).symm
   | ((conv=>whnf);refine CG (k+1) ⟨by have:=Fb a (by assumption) c.2;omega,.inr (by simpa using (by assumption:csz (k:Nat)<z))⟩ (by have:=Fb a (by assumption) c.2;omega) ?_;(exact wB))
 repeat'(first|refine gE ?_|with_reducible refine Bf.D (λb=>?_) (λb=>?_)|refine CB (aK z 1 8) ?_)
 all_goals exact C1 (λz=>[I z]) (by unfold aL;(repeat' split)<;>omega)
def uD(z:Int):zzA 64 false [.val none [I z]] .one [I (aL z)]:=by
 refine fO 14 [] Tryz.func64 rfl ?_;by_cases c:1<=z/\z<=8
 ·repeat'(first|refine gE ?_|with_reducible refine Bf.D (λa=>?_) (λa=>?_)|refine CB (aN z 1 8) ?_)
  refine CK (ι:=Nat) (λk=>[(0,.H .one [I (z)]),(3,.H .one [I ((k:Nat):Int)])]) (λk=>k<=3/\(k=0\/csz ((k - 1:Nat):Int)<z)) (λk=>4 - k) (0) ?_ ω λk b=>?_
  ·exact wB
  obtain⟨b,d⟩:=b
  repeat'(first|refine gP ?_|with_reducible refine Bf.D (λa=>?_) (λa=>?_)|refine CB (eM _) ?_)
  all_goals first
   | exact C1 (λz=>[I z]) (zz b c.1 d (by assumption)).symm
   | ((conv=>whnf);refine CG (k+1) ⟨by have:=Fb b (by assumption) c.2;omega,.inr (by simpa using (by assumption:csz (k:Nat)<z))⟩ (by have:=Fb b (by assumption) c.2;omega) ?_;(exact wB))
 repeat'(first|refine gE ?_|with_reducible refine Bf.D (λa=>?_) (λa=>?_)|refine CB (aN z 1 8) ?_)
 all_goals exact C1 (λz=>[I z]) (by unfold aL;(repeat' split)<;>omega)
theorem uf(q:bS)(a:Int)(d:bS.sml q):zzA 359 false [.val (some 2) (bS.enc .U q),.val none [I a]] .one [B (q.a6.any (fA a))]:=by
 have j:q.a6.length<=1048576:=d.1;refine fO 21 [] Tryz.func359 rfl ?_
 refine ZP ?_
 refine CK (ι:=Nat) (λi=>[(1,.H .one [I (a)]),(2,.H .box (bS.enc .U q)),(5,.H .one [I ((i:Nat):Int)])]) (λi=>i<=q.a6.length/\(q.a6.take i).any (fA a)=false) (λi=>q.a6.length - i) (0) ?_ ψ λi c=>?_
 ·exact wB
 obtain⟨c,e⟩:=c;by_cases g:i<q.a6.length
 ·have b:=ar g
  repeat'(first|refine gE ?_|with_reducible refine Bf.E (λh=>?_) (λh=>?_))
  all_goals first
   | exact C1 (λz=>[B z]) ((F6 b (O0 (by assumption))).symm)
   | ((conv=>whnf);refine CG (i+1) ⟨ω,yO b e (X0 (by assumption))⟩ ω ?_;(exact wB))
 refine ZE ?_
 exact C1 (λz=>[B z]) ψ
def jL(xs:List aT)(i:Nat):quarCells xs (i+1)=quarCells xs i+csz (nth xs i).d:=rfl
theorem PW(k:Int):0<=csz k/\csz k<=8:=by grind [cg,csz]
theorem wS(xs:List aT)(c:mH xs):zzA 360 false [.val none (dm .U xs)] .one [I (quarCells xs xs.length)]:=by
 have g:=c.1;refine fO 20 [] Tryz.func360 rfl ?_
 refine ZP ?_
 refine CK (ι:=Nat) (λi=>[(0,.H .one (dm .U xs)),(3,.H .one [I (quarCells xs i)]),(4,.H .one [I ((i:Nat):Int)])]) (λi=>i<=xs.length/\0<=quarCells xs i/\quarCells xs i<=8*i) (λi=>xs.length - i) (0) ?_ (⟨Z0 _,by simp[quarCells],by simp[quarCells]⟩) λi b=>?_
 ·exact wB
 obtain⟨b,h,j⟩:=b;by_cases d:i<xs.length
 ·have e:=ar d
  have k:=PW (nth xs i).d;have a:=jL xs i
  repeat'(first|refine gE ?_|refine CB (eP _) ?_)
  (refine CG (i+1) ω ω ?_)
  rw[a];exact wB
 refine ZE ?_
 grind
theorem zt(xs:List aT)(c:mH xs):zzA 231 false [.val none (dm .U xs)] .one [I (quarCells xs xs.length)]:=by
 have g:=c.1;refine fO 19 [] Tryz.func231 rfl ?_
 refine ZP ?_
 refine CK (ι:=Nat) (λi=>[(3,.H .one [I (quarCells xs i)]),(6,.H .one (dm .U xs)),(7,.H .one [I (xs.length)]),(8,.H .one [I ((i:Nat):Int)])]) (λi=>i<=xs.length/\0<=quarCells xs i/\quarCells xs i<=8*i) (λi=>xs.length - i) (0) ?_ (⟨Z0 _,by simp[quarCells],by simp[quarCells]⟩) λi b=>?_
 ·exact wB
 obtain⟨b,h,j⟩:=b;by_cases d:i<xs.length
 ·have e:=ar d
  have k:=PW (nth xs i).d;have a:=jL xs i
  repeat'(first|refine gE ?_|refine CB (eM _) ?_)
  (refine CG (i+1) ω ω ?_)
  rw[a];exact wB
 refine ZE ?_
 grind
def DI(a:aT):zzA 358 false [.val (some 3) (aT.enc .U a)] .one [B (decide (0<=a.d/\a.d<=3/\0<=a.Addr/\0<=a.b7))]:=by
 refine fO 16 [] Tryz.func358 rfl ?_
 repeat'(first|refine gP ?_|with_reducible refine Bf.D (λb=>?_) (λb=>?_)|refine CB (aK _ 0 3) ?_)
 all_goals exact C1 (λz=>[B z]) ((by first|(symm;exact X0 ω)|exact decide_eq_decide.2 ω))
variable{xs:List aT}
theorem RU(a:mH xs)(i:Nat):mH (xs.take i):=⟨by have:=a.1;grind,λ_ _=>trivial⟩
def qb(q:bS)(a:bS.sml q):zzA 213 false [.val (some 2) (bS.enc .U q)] .one [B (ia q)]:=by
 have l:q.a6.length<=1048576:=a.1;refine fO 57 [(5,29,[17,18,19,20,21,22,23,24,25,26,27,28,29,30,31,32,33,34,35,36,37,38,39,40,41,42,43,44,45]),(7,11,[46,47,48,49,50,51,52,53,54,55,56])] Tryz.func213 rfl ?_
 refine ZP ?_
 refine CK (ι:=Nat) (λi=>[(1,.H .box (bS.enc .U q)),(3,.H .one [I ((i:Nat):Int)])]) (λi=>i<=q.a6.length/\dv i (lJ q.a6)=true) (λi=>q.a6.length - i) 0 ?_ ⟨Z0 _,rfl⟩ λi e=>?_
 ·exact wB
 obtain⟨e,g⟩:=e;by_cases b:i<q.a6.length
 ·have j:=ar b
  have h:=uf ⟨0,q.a6.take i⟩ (nth q.a6 i).Addr (RU a i);cases c:(q.a6.take i).any (fA (nth q.a6 i).Addr)<;>rw[show(bS.mk 0 (q.a6.take i)).a6.any (fA (nth q.a6 i).Addr)=_ from c]at h
  all_goals
   repeat'(first|refine gE ?_|with_reducible refine Bf.D (λd=>?_) (λd=>?_)|refine CB (DI _) ?_|refine CO ω (aa (ik ω b)) ?_|refine CY i rfl (by simp;omega) (λr k=>by obtain⟨z,-,rfl⟩:=O5.1 k;rfl) (C5 ..) ?_)
   all_goals first
    | exact C1 (λz=>[B z]) ((by symm;unfold ia;rw[cK b (by unfold lJ;first|(rw[c];simp;done)|(rw[X0 ω];rfl))];rfl))
    | ((conv=>whnf);refine CG (i+1) ⟨ω,bZ g (by unfold lJ;rw[c,O0 ω];rfl)⟩ ω ?_;(exact wB))
 obtain rfl:i=q.a6.length:=ω
 repeat'(first|refine gE ?_|with_reducible refine Bf.D (λd=>?_) (λd=>?_)|refine CB (aK _ 0 500) ?_|refine CB (wS q.a6 a) ?_)
 all_goals exact C1 (λz=>[B z]) ((by unfold ia;rw[g];simp only[Bool.true_and];first|(symm;exact X0 ω)|exact decide_eq_decide.2 ω))
theorem xk(b:aT)(a:Int):zzA 489 false [.val (some 3) (aT.enc .U b),.ptr [I a]] .one [B (fA a b)]:=by
 refine fO 8 [] Tryz.func489 rfl ?_
 refine ZP ?_
 grind [fA]
def Bl(xs:List aT)(a:Int)(b:xs.length<=9223372036854775807):zzA 378 false [.val none (dm .U xs),.val none [I a]] .one [B (xs.any (fA a))]:=by
 refine fO 8 [] Tryz.func378 rfl ?_
 repeat'(first|refine gP ?_|refine Cq.mk (Bv (some 3) (aT.enc .U) (fA a) xs) (xk default a).has (λL k rcs c=>?_) ?_|refine CB (tF xs (fA a) b) ?_)
 ·obtain⟨y,-,rfl,rfl,rfl⟩:=c
  exact xk y a
 rfl
def rC(xs:List aT)(a:aT):Bool:=decide (0<=a.d/\a.d<=3/\0<=a.Addr/\0<=a.b7/\(xs.length=0\/(nth xs (xs.length - 1)).b7<=a.b7))&&!xs.any (fA a.Addr)
theorem E8(xs:List aT)(b:aT)(g:xs.length<=1048576):zzA 230 false [.val none (dm .U xs),.val (some 3) (aT.enc .U b)] .one [B (rC xs b)]:=by
 have c:=Bl xs b.Addr ω;cases d:xs.any (fA b.Addr)<;>rw[d]at c
 ·by_cases h:xs.length=0
  ·refine fO 40 [(3,15,[25,26,27,28,29,30,31,32,33,34,35,36,37,38,39])] Tryz.func230 rfl ?_
   repeat'(first|refine gP ?_|with_reducible (first|refine Bf.D (λa=>?_) (λa=>?_)|refine Bf.E (λa=>?_) (λa=>?_))|refine CB (gi _) ?_)
   all_goals first
    | exact C1 (λz=>[B z]) ((by unfold rC;rw[d,Bool.not_false,Bool.and_true];first|(symm;exact X0 ω)|(symm;exact O0 ω)|exact decide_eq_decide.2 ω))
    |(exfalso;omega)
    |trace_state
  have e:xs[((xs.length:Int) - 1).toNat]? = some (nth xs (xs.length - 1)):=by rw[show((xs.length:Int) - 1).toNat=xs.length - 1 by omega];grind [ar]
  refine fO 40 [(3,15,[25,26,27,28,29,30,31,32,33,34,35,36,37,38,39])] Tryz.func230 rfl ?_
  repeat'(first|refine gP ?_|with_reducible (first|refine Bf.D (λa=>?_) (λa=>?_)|refine Bf.E (λa=>?_) (λa=>?_))|refine CB (gi _) ?_|refine CO ω (aa e) ?_)
  all_goals first
   | exact C1 (λz=>[B z]) ((by unfold rC;rw[d,Bool.not_false,Bool.and_true];first|(symm;exact X0 ω)|(symm;exact O0 ω)|exact decide_eq_decide.2 ω))
   |(exfalso;omega)
   |trace_state
 refine fO 40 [(3,15,[25,26,27,28,29,30,31,32,33,34,35,36,37,38,39])] Tryz.func230 rfl ?_
 repeat'(first|refine gP ?_|with_reducible refine Bf.D (λa=>?_) (λa=>?_)|refine CB (gi _) ?_)
 all_goals exact C1 (λz=>[B z]) ((by unfold rC;rw[d];simp))
theorem L2(d:i<xs.length):rC (xs.take i) (nth xs i)=lJ xs i:=by
 unfold rC lJ;have a:(xs.take i).length=i:=ψ
 rw[a]
 congr 1
 refine decide_eq_decide.2 ?_;by_cases b:i=0
 ·subst b;simp
 have c:nth (xs.take i) (i - 1)=nth xs (i - 1):=by
  have:=ar (xs:=xs) (i:=i - 1) ω
  grind [bq]
 rw[c]
theorem J3(q:bS)(d:bS.sml q):zzA 79 false [.val (some 2) (bS.enc .U q)] .one [B (ia q)]:=by
 have l:q.a6.length<=1048576:=d.1;refine fO 32 [(4,7,[13,14,15,16,17,18,19]),(7,11,[21,22,23,24,25,26,27,28,29,30,31])] Tryz.func79 rfl ?_
 refine ZP ?_
 refine CK (ι:=Nat) (λi=>[(1,.H .box (bS.enc .U q)),(6,.H .one (dm .U q.a6)),(7,.H .one [I (q.a6.length)]),(8,.H .one [I ((i:Nat):Int)])]) (λi=>i<=q.a6.length/\dv i (lJ q.a6)=true) (λi=>q.a6.length - i) 0 ?_ ⟨Z0 _,rfl⟩ λi e=>?_
 ·exact wB
 obtain⟨e,g⟩:=e;by_cases a:i<q.a6.length
 ·have h:=ar a
  have b:=E8 (q.a6.take i) (nth q.a6 i) ψ;rw[L2 a]at b;cases c:lJ q.a6 i<;>rw[c]at b
  all_goals
   repeat'(first|refine gE ?_|refine CY i rfl (by simp;omega) (λr j=>by obtain⟨z,-,rfl⟩:=O5.1 j;rfl) (C5 ..) ?_)
   all_goals first
    | exact C1 (λz=>[B z]) ((by symm;unfold ia;rw[cK a c];rfl))
    | ((conv=>whnf);refine CG (i+1) ⟨ω,bZ g c⟩ ω ?_;(exact wB))
 obtain rfl:i=q.a6.length:=ω
 repeat'(first|refine gE ?_|with_reducible refine Bf.D (λk=>?_) (λk=>?_)|refine CB (aN _ 0 500) ?_|refine CB (zt q.a6 d) ?_)
 all_goals exact C1 (λz=>[B z]) ((by unfold ia;rw[g];simp only[Bool.true_and];first|(symm;exact X0 ω)|exact decide_eq_decide.2 ω))
def gz(a:List Bool):Nat->Int
 | 0=>0
 | i+1=>gz a i+(if nth a i then 1 else 0)
def cq(f:aU):Int:=if cY f then gz f.a1 f.a1.length else 0
def kF{a:List Bool}(h:nth a i=true):gz a (i+1)=gz a i+1:=by show gz a i+(if nth a i then 1 else 0)=_;rw[h];rfl
def oh{a:List Bool}(h:nth a i=false):gz a (i+1)=gz a i:=by show gz a i+(if nth a i then 1 else 0)=_;rw[h];simp
theorem PA(f:aU)(g:aU.sml f):zzA 25 false [.val (some 2) (aU.enc .U f)] .one [I (cq f)]:=by
 have l:f.a1.length<=1048576:=g.2;have b:=sB f g;cases h:cY f<;>rw[h]at b
 ·refine fO 24 [] Tryz.func25 rfl ?_
  refine ZP ?_
  refine CK (ι:=Nat) (λi=>[(1,.H .box (aU.enc .U f)),(3,.H .one [I ((0:Int))]),(4,.H .one [I ((i:Nat):Int)])]) (λi=>i=0) (λi=>i) (0) ?_ (rfl) λi c=>?_
  ·exact wB
  subst c
  repeat'(first|refine gP ?_|with_reducible refine Bf.D (λj=>?_) (λj=>?_))
  all_goals grind [cq]
 refine fO 24 [] Tryz.func25 rfl ?_
 refine ZP ?_
 refine CK (ι:=Nat) (λi=>[(1,.H .box (aU.enc .U f)),(3,.H .one [I (gz f.a1 i)]),(4,.H .one [I ((i:Nat):Int)])]) (λi=>i<=f.a1.length/\0<=gz f.a1 i/\gz f.a1 i<=i) (λi=>f.a1.length - i) (0) ?_ (⟨Z0 _,by simp[gz],by simp[gz]⟩) λi c=>?_
 ·exact wB
 obtain⟨c,n,o⟩:=c;by_cases k:i<f.a1.length
 ·have d:=ar k
  cases e:nth f.a1 i<;>rw[e]at d
  ·have a:=oh e
   refine ZE ?_
   (refine CG (i+1) ω ω ?_)
   rw[a];exact wB
  have a:=kF e
  refine ZE ?_
  (refine CG (i+1) ω ω ?_)
  rw[a];exact wB
 obtain rfl:i=f.a1.length:=ω
 refine ZE ?_
 grind [cq]
theorem pN(f:aU)(e:aU.sml f):zzA 93 false [.val (some 2) (aU.enc .U f)] .one [I (cq f)]:=by
 have k:f.a1.length<=1048576:=e.2;have b:=nM f e;cases g:cY f<;>rw[g]at b
 ·refine fO 21 [] Tryz.func93 rfl ?_
  refine ZP ?_
  all_goals exact C1 (λz=>[I z]) (by unfold cq;rw[g];rfl)
 refine fO 21 [] Tryz.func93 rfl ?_
 refine ZP ?_
 refine CK (ι:=Nat) (λi=>[(3,.H .one [I (gz f.a1 i)]),(10,.H .one (vw .U f.a1)),(11,.H .one [I (f.a1.length)]),(12,.H .one [I ((i:Nat):Int)])]) (λi=>i<=f.a1.length/\0<=gz f.a1 i/\gz f.a1 i<=i) (λi=>f.a1.length - i) (0) ?_ (⟨Z0 _,by simp[gz],by simp[gz]⟩) λi h=>?_
 ·exact wB
 obtain⟨h,l,n⟩:=h;by_cases j:i<f.a1.length
 ·have c:=ar j
  cases d:nth f.a1 i<;>rw[d]at c
  ·have a:=oh d
   refine ZE ?_
   (refine CG (i+1) ω ω ?_)
   rw[a];exact wB
  have a:=kF d
  refine ZE ?_
  (refine CG (i+1) ω ω ?_)
  rw[a];exact wB
 obtain rfl:i=f.a1.length:=ω
 refine ZE ?_
 grind [cq]
def xG(h:ac):Prop:=aM.sml h.F.G.Q
def je(h:ac)(p:Int)(a:xG h):zzA 355 false [.val (some 24) (ac.enc .U h),.val none [I p]] .one (aH .own (aX h p)):=by
 refine fO 23 [] Tryz.func355 rfl ?_ (.inr (bO _))
 repeat'((conv=>whnf);first|with_reducible (first|refine Lm ?_|refine Wm ω ?_|refine Bf.E (λb=>?_) (λb=>?_)|refine Bn ?_|refine jV.wk rfl ?_)|refine Bt ?_|refine Bu ?_|refine CB (dy h.F.G.Q p a) ?_|refine CB (iK h.F.G.Q _ a) ?_)
 all_goals(unfold aX;first|rw[CE (by assumption)]|rw[CC (by assumption)])
 all_goals exact⟨rfl,trivial⟩
def l7(h:ac)(p:Int)(a:xG h):zzA 227 false [.val (some 24) (ac.enc .U h),.val none [I p]] .one (aH .own (aX h p)):=by
 refine fO 22 [] Tryz.func227 rfl ?_ (.inr (bO _))
 repeat'((conv=>whnf);first|with_reducible (first|refine Lm ?_|refine Wm ω ?_|refine Bf.E (λb=>?_) (λb=>?_)|refine Bn ?_|refine jV.wk rfl ?_)|refine Bt ?_|refine Bu ?_|refine CB (dR h.F.G.Q p a) ?_|refine CB (lO h.F.G.Q _ a) ?_)
 all_goals(unfold aX;first|rw[CE (by assumption)]|rw[CC (by assumption)])
 all_goals exact⟨rfl,trivial⟩
theorem fx(k:ah)(p:Int)(a:aM.sml k.G.Q):zzA 127 false [.val (some 5) (ah.enc .U k),.val none [I p]] .one [B (decide ((af k.G.Q p).j≠0))]:=by
 refine fO 12 [] Tryz.func127 rfl ?_
 repeat'(first|refine gP ?_|refine CB (dR k.G.Q p a) ?_)
 grind
def qy(z:Int):zzA 83 false [.val none [I z]] .one [B (decide (0<=z/\z<=1073741823))]:=by
 refine fO 5 [] Tryz.func83 rfl ?_
 repeat'(first|refine gP ?_|refine CB (aN z 0 1073741823) ?_)
 rfl
theorem lg(h:ac)(p:Int)(g:h.J.length<=1048576):zzA 219 false [.val (some 24) (ac.enc .U h),.val none [I p]] .one [I (ir h p)]:=by
 refine fO 22 [] Tryz.func219 rfl ?_
 refine ZP ?_
 refine CK (ι:=Nat) (λi=>[(1,.H .one [I (p)]),(2,.H .box (ac.enc .U h)),(5,.H .one [I ((i:Nat):Int)])]) (λi=>i<=h.J.length/\∀(j:Nat)(z:aA),j<i->h.J[j]? = some z->n7 p z=false) (λi=>h.J.length - i) (0) ?_ ψ λi c=>?_
 ·exact wB
 obtain⟨c,a⟩:=c;by_cases d:i<h.J.length
 ·have b:=ar d
  repeat'(first|refine gE ?_|with_reducible refine Bf.E (λe=>?_) (λe=>?_))
  all_goals first
   | exact C1 (λz=>[I z]) (dE b (O0 (by assumption)) a).symm
   | ((conv=>whnf);refine CG (i+1) ⟨ω,eA b (X0 (by assumption)) a⟩ ω ?_;(exact wB))
 refine ZE ?_
 exact C1 (λz=>[I z]) (gv ω a).symm
theorem Ez(s:aA)(p:Int):zzA 241 false [.val (some 3) (aA.enc .U s),.ptr [I p]] .one [B (n7 p s)]:=by
 refine fO 8 [] Tryz.func241 rfl ?_
 refine ZP ?_
 grind [n7]
def xv(h:ac)(p:Int)(b:h.J.length<=1048576):zzA 85 false [.val (some 24) (ac.enc .U h),.val none [I p]] .one [I (ir h p)]:=by
 refine fO 9 [] Tryz.func85 rfl ?_
 repeat'(first|refine gP ?_|refine Cq.mk (Bv (some 3) (aA.enc .U) (n7 p) h.J) (Ez default p).has (λL k rcs a=>?_) ?_|refine CB (yK h.J (n7 p) ω) ?_)
 ·obtain⟨y,-,rfl,rfl,rfl⟩:=a
  exact Ez y p
 rfl
def flight1(m:aP)(i:Nat):List Int:=(m.V.take i).flatMap λl=>l.map (·.Addr)
def flight2(m:aP)(i:Nat):List Int:=(m.a2.take i).flatten
theorem pf{l:List dI}(h:m.V[i]? = some l):flight1 m (i+1)=flight1 m i++l.map (·.Addr):=by grind [X7,flight1]
theorem p8(h:m.a2[i]? = some l):flight2 m (i+1)=flight2 m i++l:=by grind [X7,flight2]
theorem qu(h:bT m=true):aV m=flight1 m m.V.length++flight2 m m.a2.length:=by grind [aV,flight1,flight2]
theorem xb(h:bT m=false):aV m=[]:=by grind [aV]
theorem u5(h:bT m=true):1<=m.V.length/\m.V.length<=4/\m.a2.length=m.V.length:=by grind [bT]
def JO : ∀r∈l.map (rI .U),r.length=1:=by
 intro r a;obtain⟨z,-,rfl⟩:=O5.1 a;rfl
def LP : ∀r∈l.map (rI .U),bn r=true:=by
 intro r a;obtain⟨z,-,rfl⟩:=O5.1 a;rfl
theorem BM(m:aP)(g:aP.sml m):zzA 35 false [.val (some 2) (aP.enc .U m)] .one (aH .own (aV m)):=by
 have h:=mV m g;cases d:bT m<;>rw[d]at h
 ·refine fO 56 [] Tryz.func35 rfl ?_ (.inr (bO _))
  repeat'((conv=>whnf);first|with_reducible (first|refine Lm ?_|refine Wm ω ?_|refine Bn ?_|refine jV.wk rfl ?_)|refine Bt ?_|refine Bu ?_|refine CB h ?_)
  all_goals(rw[xb d];exact⟨rfl,trivial⟩)
 obtain⟨D,E,F⟩:=u5 d;refine fO 56 [] Tryz.func35 rfl ?_ (.inr (bO _))
 refine ZP ?_
 refine CK (ι:=Nat × List Int) (λi=>[(1,.H .box (aP.enc .U m)),(3,.H .one (aH .own i.2)),(4,.H .one [I ((i.1:Nat):Int)])]) (λi=>i.1<=m.V.length/\i.2=flight1 m i.1/\i.2.length<=1048576*i.1) (λi=>m.V.length - i.1) ((0,[])) ?_ (⟨Z0 _,rfl,Z0 _⟩) λi j=>?_
 ·exact wB
 obtain⟨i,S⟩:=i;obtain⟨j,p,t⟩:=j;simp only at j p t |-;by_cases q:i<m.V.length
 ·have l:=ar q
  have u:(nth m.V i).length<=1048576:=(g.1.2 _ (au q)).1
  refine ZE ?_
  refine CK (ι:=Nat × List Int) (λk=>[(1,.H .box (aP.enc .U m)),(3,.H .one (aH .own k.2)),(4,.H .one [I ((i:Nat):Int)]),(5,.H .one [I ((k.1:Nat):Int)])]) (λk=>k.1<=(nth m.V i).length/\k.2=S++((nth m.V i).take k.1).map (·.Addr)) (λk=>(nth m.V i).length - k.1) ((0,S)) ?_ ψ λk b=>?_
  ·exact wB
  obtain⟨k,c⟩:=k;obtain⟨b,a⟩:=b;simp only at b a |-;have w:c.length=S.length+k:=ψ
  by_cases e:k<(nth m.V i).length
  ·have n:=ar e
   repeat'(first|refine gE ?_|refine CV cC (λr y=>by rw[C2.1 y];rfl) (by simp[bn,eG]) (by simp;omega) (by show _*8<=_;simp;omega) rfl ?_)
   ((conv=>whnf)
    refine CG (k+1,c++[(nth (nth m.V i) k).Addr]) ⟨(by simp only;omega),(by grind [X7])⟩ (by simp only;omega) ?_
    (repeat'(first|exact trivial|rfl|exact CN rfl (CN (C1 (C.s dX.own) (by simp[rI])) trivial)|refine CN ?_ ?_)))
  obtain rfl:k=(nth m.V i).length:=ω
  rw[C7]at a
  refine ZE ?_
  (refine CG (i+1,c) ⟨(by simp only;omega),(by grind [pf]),(by simp only;omega)⟩ (by simp only;omega) ?_;(exact wB))
 obtain rfl:i=m.V.length:=ω
 refine ZE ?_
 refine CK (ι:=Nat × List Int) (λk=>[(1,.H .box (aP.enc .U m)),(3,.H .one (aH .own k.2)),(6,.H .one [I ((k.1:Nat):Int)])]) (λk=>k.1<=m.a2.length/\k.2=S++flight2 m k.1/\k.2.length<=S.length+1048576*k.1) (λk=>m.a2.length - k.1) ((0,S)) ?_ (⟨Z0 _,by simp[flight2],by simp⟩) λk b=>?_
 ·exact wB
 obtain⟨k,c⟩:=k;obtain⟨b,a,o⟩:=b;simp only at b a o |-;by_cases e:k<m.a2.length
 ·have n:=ar e
  have B:(nth m.a2 k).length<=1048576:=g.2.2 _ (au e)
  repeat'(first|refine gE ?_|refine CV cC JO (λ_=>LP) (by simp;omega) (by show _*8<=_;simp;omega) rfl ?_)
  ((conv=>whnf)
   refine CG (k+1,c++nth m.a2 k) ⟨(by simp only;omega),(by grind [p8]),ψ⟩ (by simp only;omega) ?_
   (repeat'(first|exact trivial|rfl|exact CN rfl (CN (C1 (C.s dX.own) (by simp[rI])) trivial)|refine CN ?_ ?_)))
 obtain rfl:k=m.a2.length:=ω
 refine ZE ?_
 rw[qu d,<-p,<-a];rfl
theorem Df(m:aP)(g:aP.sml m):zzA 237 false [.val (some 2) (aP.enc .U m)] .one (aH .own (aV m)):=by
 have h:=w9 m g;cases d:bT m<;>rw[d]at h
 ·refine fO 46 [] Tryz.func237 rfl ?_ (.inr (bO _))
  repeat'((conv=>whnf);first|with_reducible (first|refine Lm ?_|refine Wm ω ?_|refine Bn ?_|refine jV.wk rfl ?_)|refine Bt ?_|refine Bu ?_|refine CB h ?_)
  all_goals(rw[xb d];exact⟨rfl,trivial⟩)
 obtain⟨D,E,F⟩:=u5 d;refine fO 46 [] Tryz.func237 rfl ?_ (.inr (bO _))
 refine ZP ?_
 refine CK (ι:=Nat × List Int) (λi=>[(1,.H .box (aP.enc .U m)),(3,.H .one (aH .own i.2)),(15,.H .one (zI .U m.V)),(16,.H .one [I (m.V.length)]),(17,.H .one [I ((i.1:Nat):Int)])]) (λi=>i.1<=m.V.length/\i.2=flight1 m i.1/\i.2.length<=1048576*i.1) (λi=>m.V.length - i.1) ((0,[])) ?_ (⟨Z0 _,rfl,Z0 _⟩) λi j=>?_
 ·exact wB
 obtain⟨i,S⟩:=i;obtain⟨j,o,q⟩:=j;simp only at j o q |-;by_cases p:i<m.V.length
 ·have t:=ar p
  have u:(nth m.V i).length<=1048576:=(g.1.2 _ (au p)).1
  refine ZE ?_
  refine CK (ι:=Nat × List Int) (λk=>[(1,.H .box (aP.enc .U m)),(3,.H .one (aH .own k.2)),(15,.H .one (zI .U m.V)),(16,.H .one [I (m.V.length)]),(17,.H .one [I ((i:Nat):Int)]),(21,.H .one (cL .U (nth m.V i))),(22,.H .one [I ((nth m.V i).length)]),(23,.H .one [I ((k.1:Nat):Int)])]) (λk=>k.1<=(nth m.V i).length/\k.2=S++((nth m.V i).take k.1).map (·.Addr)) (λk=>(nth m.V i).length - k.1) ((0,S)) ?_ ψ λk b=>?_
  ·exact wB
  obtain⟨k,c⟩:=k;obtain⟨b,a⟩:=b;simp only at b a |-;have w:c.length=S.length+k:=ψ
  by_cases e:k<(nth m.V i).length
  ·have l:=ar e
   repeat'(first|refine gE ?_|refine CV cC (λr y=>by rw[C2.1 y];rfl) (by simp[bn,eG]) (by simp;omega) (by show _*8<=_;simp;omega) rfl ?_)
   ((conv=>whnf)
    refine CG (k+1,c++[(nth (nth m.V i) k).Addr]) ⟨(by simp only;omega),(by grind [X7])⟩ (by simp only;omega) ?_
    (repeat'(first|exact trivial|rfl|exact CN rfl (CN (C1 (C.s dX.own) (by simp[rI])) trivial)|refine CN ?_ ?_)))
  obtain rfl:k=(nth m.V i).length:=ω
  rw[C7]at a
  refine ZE ?_
  (refine CG (i+1,c) ⟨(by simp only;omega),(by grind [pf]),(by simp only;omega)⟩ (by simp only;omega) ?_;(exact wB))
 obtain rfl:i=m.V.length:=ω
 refine ZE ?_
 refine CK (ι:=Nat × List Int) (λk=>[(3,.H .one (aH .own k.2)),(35,.H .one (kx .U m.a2)),(36,.H .one [I (m.a2.length)]),(37,.H .one [I ((k.1:Nat):Int)])]) (λk=>k.1<=m.a2.length/\k.2=S++flight2 m k.1/\k.2.length<=S.length+1048576*k.1) (λk=>m.a2.length - k.1) ((0,S)) ?_ (⟨Z0 _,by simp[flight2],by simp⟩) λk b=>?_
 ·exact wB
 obtain⟨k,c⟩:=k;obtain⟨b,a,n⟩:=b;simp only at b a n |-;by_cases e:k<m.a2.length
 ·have l:=ar e
  have B:(nth m.a2 k).length<=1048576:=g.2.2 _ (au e)
  repeat'(first|refine gE ?_|refine CV cC JO (λ_=>LP) (by simp;omega) (by show _*8<=_;simp;omega) rfl ?_)
  ((conv=>whnf)
   refine CG (k+1,c++nth m.a2 k) ⟨(by simp only;omega),(by grind [p8]),ψ⟩ (by simp only;omega) ?_
   (repeat'(first|exact trivial|rfl|exact CN rfl (CN (C1 (C.s dX.own) (by simp[rI])) trivial)|refine CN ?_ ?_)))
 obtain rfl:k=m.a2.length:=ω
 refine ZE ?_
 rw[qu d,<-o,<-a];rfl
def tbl(h:ac):aM:=h.F.G.Q
def fo(h:ac):Nat:=h.F.G.Q.K.length
def yr(xs:List aA)(i:Nat):Bool:=decide (i=0\/(nth xs (i - 1)).R<(nth xs i).R)
def zw(xs:List aE)(i:Nat):Bool:=decide (i=0\/(nth xs (i - 1)).R<(nth xs i).R)
def Bb(h:ac)(l:aE)(k:Nat):Bool:=decide ((aX h (l.R+(k:Nat))).length=1)
def vq(h:ac)(i:Nat):Bool:=zw h.M i&&dv (nth h.M i).a4.toNat (Bb h (nth h.M i))
def xx(h:ac)(p:Nat):Bool:=decide ((nth (tbl h).K p).j≠0↔(p:Int)∈pgs h.J h.M)&&(decide ((nth (tbl h).K p).j≠0) != h.o.any (xw (p:Nat)))
def pages0(h:ac):Bool:=((dv h.J.length (yr h.J)&&dv h.M.length (vq h))&&(pgs h.J h.M).all λp=>decide (p<fo h))&&dv (fo h) (xx h)
def nG(h:ac)(i:Nat)(q:Int):Bool:=decide (ir h q=(i:Nat)) || (decide (0<=ir h q)&&meshable (nth h.J i) (nth h.J (ir h q).toNat))
def wP(h:ac):Bool:=dv h.J.length λi=>(aX h (nth h.J i).R).all (nG h i)
def ns(h:ac)(i j:Nat):Bool:=decide ((af (tbl h) (nth h.J i).R).e≠(af (tbl h) (nth h.J j).R).e) || meshable (nth h.J i) (nth h.J j)
def qV(h:ac):Bool:=dv h.J.length λi=>dv i (ns h i)
def fL(z:Int)(o:bu):Bool:=decide (o.Id=z)
def jM(h:ac)(o:bu):Bool:=
 let w:=denotes h.J h.M o.Addr
 decide (w.c2=0)&&((decide (w.b6=1)&&decide ((nth h.J w.c1.toNat).d=aL o.y)) || (decide (w.b6=3)&&decide ((nth h.M w.c1.toNat).y=o.y)))
def iI(a:Int)(h:ac)(i:Nat):Bool:=decide ((i=0\/(nth h.O (i - 1)).Addr<(nth h.O i).Addr)/\1<=(nth h.O i).Id/\(nth h.O i).Id<=a/\0<=(nth h.O i).a5/\(nth h.O i).a5<=h.S.length - 1)
def objAt(a:Int)(h:ac)(i:Nat):Bool:=(iI a h i&&!(h.O.take i).any (fL (nth h.O i).Id))&&jM h (nth h.O i)
def gH(h:ac):Bool:=dv h.O.length (objAt (IntKind.i64.wrap (h.b - 1)) h)
def dL(h:ac)(a c:Int):Bool:=
 let w:=denotes h.J h.M a
 (decide (w.b6=1)&&decide (w.c2=0))&&(decide (c<0) || decide ((nth h.J w.c1.toNat).d=c))
def tT(h:ac)(c:aF)(k:Nat):Bool:=(nth c.Z k).all λa=>dL h a (k:Nat)
def fT(h:ac)(c:aF):Bool:=dv c.Z.length (tT h c)
def iP(h:ac)(x:aT):Bool:=dL h x.Addr x.d
def lH(h:ac)(a:Int):Bool:=dL h a (-1)
def cQ(h:ac):List Int:=h.S.flatMap λc=>c.Z.flatten
def kI(h:ac):Bool:=((h.S.all (fT h))&&h.a7.a6.all (iP h))&&(aV h.w).all (lH h)
def holders(h:ac):List Int:=((h.O.map (·.Addr)++cQ h)++h.a7.a6.map (·.Addr))++aV h.w
def l8(sp:List aA)(la:List aE)(a:Nat):Bool:=
 let w:=denotes sp la (a:Nat)
 decide (w.c2=0)&&(decide (w.b6=1) || decide (w.b6=3))
def mR(sp:List aA)(la:List aE)(n:Nat):List Int:=((List.range n).filter (l8 sp la)).map λ(i:Nat)=>(i:Int)
def lC(sp:List aA)(la:List aE):List Int:=mR sp la 512
def lr(h:ac):Bool:=(kI h&&decide (holders h).Nodup)&&decide ((holders h).length=(lC h.J h.M).length)
def nh(h:ac):Bool:=h.a7.a6.all λx=>decide (x.b7<=h.b2)
def cx(h:ac):Bool:=decide (0<=h.b3/\h.b3<=1073741823/\0<=h.b2/\h.b2<=1000000/\0<=h.b1/\h.b1<=1000/\1<=h.b/\h.b<=1000000)
def uh(h:ac):Bool:=if h.q then(jX h.Y&&decide (0<=ir h h.Y.X.a3))&&decide (0<=ir h h.Y.X.a0) else rZ h.Y
def mb(h:ac):Bool:=((aD h.F&&bG (fo h) h.o)&&bx h.J h.M)&&pages0 h
set_option maxHeartbeats 8000000
theorem eQ(h:bx sp la=true):sp.all bh=true/\la.all bR=true/\(pgs sp la).Nodup:=by grind [bx]
def UC[Inhabited α]{xs:List α}{p:α->Bool}(h:xs.all p=true)(a:i<xs.length):p (nth xs i)=true:=v5.1 h _ (au a)
variable{h:ac}
theorem GH(h1:dv h.J.length (yr h.J)=false):pages0 h=false:=by grind [pages0]
theorem vf(h1:dv h.M.length (vq h)=false):pages0 h=false:=by grind [pages0]
theorem JM(h1:p∈pgs h.J h.M)(a:¬p<fo h):pages0 h=false:=by grind [pages0]
theorem Ji(h1:dv (fo h) (xx h)=false):pages0 h=false:=by grind [pages0]
theorem Aw(h1:dv h.J.length (yr h.J)=true)(a:dv h.M.length (vq h)=true)(b:∀p∈pgs h.J h.M,p<fo h)(c:dv (fo h) (xx h)=true):pages0 h=true:=by grind [pages0]
theorem RJ(h1:zw h.M i=false):vq h i=false:=by grind [vq]
theorem Rr(a:k<(nth h.M i).a4.toNat)(h1:Bb h (nth h.M i) k=false):vq h i=false:=by grind [cK,vq]
theorem GD(h1:zw h.M i=true)(a:dv (nth h.M i).a4.toNat (Bb h (nth h.M i))=true):vq h i=true:=by grind [vq]
def gh(h:ac)(p:Int):(aX h p).length<=fo h:=by
 unfold aX;split
 ·simp
 exact th ..
theorem vS(h:bx sp la=true){l:aE}(a:la[i]? = some l):1<=l.a4/\l.a4<=63/\0<=l.R/\l.R<=31:=
 aW (v5.1 (eQ h).2.1 l ψ)
theorem JH(h:ac)(y:dY h.J)(E:eD h.M)(g:xG h)(F:gI h.o)(l:bx h.J h.M=true):zzA 211 false [.val (some 24) (ac.enc .U h)] .one [B (pages0 h)]:=by
 have Y:=y.1;have Z:=E.1;have hl3:fo h<=1048576:=g.1;have hl4:=F.1;refine fO 144 [(7,18,[28,29,30,31,32,33,34,35,36,37,38,39,40,41,42,43,44,45]),(13,18,[62,63,64,65,66,67,68,69,70,71,72,73,74,75,76,77,78,79])] Tryz.func211 rfl ?_
 refine ZP ?_
 refine CK (ι:=Nat × List Int) (λi=>[(1,.H .box (ac.enc .U h)),(3,.H .box (aM.enc .U (tbl h))),(4,.H .one [I (fo h)]),(5,.H .one (aH .own i.2)),(6,.H .one [I ((i.1:Nat):Int)])]) (λi=>i.1<=h.J.length/\i.2=(h.J.take i.1).map (·.R)/\dv i.1 (yr h.J)=true) (λi=>h.J.length - i.1) ((0,[])) ?_ (⟨Z0 _,rfl,rfl⟩) λi G=>?_
 ·exact wB
 obtain⟨i,S⟩:=i;obtain⟨G,H,J⟩:=G;simp only at G H J |-;have hSl:S.length=i:=ψ
 by_cases K:i<h.J.length
 ·have b:=ar K
  repeat'(first|refine gE ?_|with_reducible refine Bf.D (λa=>?_) (λa=>?_)|refine CO ω (aa (ik ω K)) ?_|refine CV cC (λr n=>by rw[C2.1 n];rfl) (by simp[bn,eG]) (by simp;omega) (by simp only[O1];exact zd (by simp;omega) (by decide)) rfl ?_)
  all_goals first
   | exact C1 (λz=>[B z]) ((GH (cK K (X0 ω))).symm)
   | ((conv=>whnf)
      refine CG (i+1,S++[(nth h.J i).R]) ⟨(by simp only;omega),(by simp only;rw[H,X7,b];simp),bZ J (O0 ω)⟩ (by simp only;omega) ?_
      (repeat'(first|exact trivial|rfl|exact CN rfl (CN (C1 (C.s dX.own) (by simp[rI])) trivial)|refine CN ?_ ?_)))
 obtain rfl:i=h.J.length:=ω
 rw[C7]at H
 refine ZE ?_
 refine CK (ι:=Nat × List Int) (λk=>[(1,.H .box (ac.enc .U h)),(3,.H .box (aM.enc .U (tbl h))),(4,.H .one [I (fo h)]),(5,.H .one (aH .own k.2)),(7,.H .one [I ((k.1:Nat):Int)])]) (λk=>k.1<=h.M.length/\k.2=pgs h.J (h.M.take k.1)/\dv k.1 (vq h)=true/\k.2.length<=1048576+64*k.1) (λk=>h.M.length - k.1) ((0,S)) ?_ (⟨Z0 _,by grind [pgs],rfl,by simp only;omega⟩) λk L=>?_
 ·exact wB
 obtain⟨k,S2⟩:=k;obtain⟨L,c,M,O⟩:=L;simp only at L c M O |-;by_cases u:k<h.M.length
 ·have b:=ar u
  have hpg:=vS l b
  repeat'(first|refine gE ?_|with_reducible refine Bf.D (λa=>?_) (λa=>?_)|refine CO ω (aa (ik ω u)) ?_)
  all_goals first
   | exact C1 (λz=>[B z]) ((vf (cK u (RJ (X0 ω)))).symm)
   |have e:zw h.M k=true:=O0 ω
    (conv=>whnf)
    refine CK (ι:=Nat × List Int) (λq=>[(1,.H .box (ac.enc .U h)),(3,.H .box (aM.enc .U (tbl h))),(4,.H .one [I (fo h)]),(5,.H .one (aH .own q.2)),(7,.H .one [I ((k:Nat):Int)]),(8,.H .one [I ((q.1:Nat):Int)])]) (λq=>q.1<=(nth h.M k).a4.toNat/\q.2=S2++lpgs (nth h.M k) q.1/\dv q.1 (Bb h (nth h.M k))=true) (λq=>(nth h.M k).a4.toNat - q.1) ((0,S2)) ?_ (⟨Z0 _,by simp[lpgs],rfl⟩) λq a=>?_
    ·exact wB
    obtain⟨q,Q⟩:=q;obtain⟨R,d,o⟩:=a;simp only at R d o |-;have U:Q.length=S2.length+q:=by rw[d,C4,Hq]
    by_cases w:q<(nth h.M k).a4.toNat
    ·have hfl:=gh h ((nth h.M k).R+(q:Nat))
     repeat'(first|refine gE ?_|with_reducible refine Bf.N (λa=>?_) (λa=>?_)|refine CB (je h _ g) ?_|refine CV cC (λr n=>by rw[C2.1 n];rfl) (by simp[bn,eG]) (by simp;omega) (by show _*8<=_;simp;omega) rfl ?_)
     all_goals first
      | exact C1 (λz=>[B z]) ((vf (cK u (Rr w (X0 ω)))).symm)
      | ((conv=>whnf)
         refine CG (q+1,Q++[(nth h.M k).R+(q:Nat)]) ⟨(by simp only;omega),(by simp only;rw[d,lR,Y7]),bZ o (O0 ω)⟩ (by simp only;omega) ?_
         (repeat'(first|exact trivial|rfl|exact CN rfl (CN (C1 (C.s dX.own) (by simp[rI])) trivial)|refine CN ?_ ?_)))
    obtain rfl:q=(nth h.M k).a4.toNat:=ω
    refine ZE ?_
    (refine CG (k+1,Q) ⟨(by simp only;omega),(by simp only;rw[d,c,<-qa _ b]),bZ M (GD e o),(by simp only;omega)⟩ (by simp only;omega) ?_;(exact wB))
 obtain rfl:k=h.M.length:=ω
 rw[C7]at c
 refine ZE ?_
 refine CK (ι:=Nat) (λq=>[(1,.H .box (ac.enc .U h)),(3,.H .box (aM.enc .U (tbl h))),(4,.H .one [I (fo h)]),(5,.H .one (aH .own S2)),(10,.H .one [I ((q:Nat):Int)])]) (λq=>q<=S2.length/\∀j,j<q->nth S2 j<fo h) (λq=>S2.length - q) (0) ?_ ψ λq a=>?_
 ·exact wB
 obtain⟨a,o⟩:=a;by_cases w:q<S2.length
 ·have b:=ar w
  repeat'(first|refine gE ?_|with_reducible refine Bf.D (λa=>?_) (λa=>?_))
  all_goals first
   | exact C1 (λz=>[B z]) ((JM (by rw[<-c];exact au w) ω).symm)
   | ((conv=>whnf);refine CG (q+1) ⟨ω,λj hj=>by rcases Nat.lt_or_ge j q with V|V;exact o j V;(obtain rfl:j=q:=ω);omega⟩ ω ?_;(exact wB))
 have t:∀p∈pgs h.J h.M,p<fo h:=λp T=>by grind [List.mem_iff_getElem?,bq]
 refine ZE ?_
 refine CK (ι:=Nat) (λp=>[(1,.H .box (ac.enc .U h)),(3,.H .box (aM.enc .U (tbl h))),(4,.H .one [I (fo h)]),(5,.H .one (aH .own S2)),(11,.H .one [I ((p:Nat):Int)])]) (λp=>p<=fo h/\dv p (xx h)=true) (λp=>fo h - p) 0 ?_ ⟨Z0 _,rfl⟩ λp T=>?_
 ·exact wB
 obtain⟨T,W⟩:=T;by_cases X:p<fo h
 ·have b:=ar (xs:=(tbl h).K) X
  have n:=BQ h.o (p:Nat) ω
  repeat'(first|refine gE ?_|with_reducible (first|refine Bf.D (λa=>?_) (λa=>?_)|refine Bf.NB (λa=>?_) (λa=>?_))|refine CH (nP S2 _ ω) ⟨⟨rfl,dH _⟩,⟨rfl,rfl⟩,trivial⟩ ?_|refine Bf.P (λa=>?_) (λa=>?_))
  all_goals first
   | exact C1 (λz=>[B z]) ((Ji (cK X (by unfold xx;rw[<-c];grind))).symm)
   | ((conv=>whnf);refine CG (p+1) ⟨ω,bZ W (by unfold xx;rw[<-c];grind)⟩ ω ?_;(exact wB))
 refine ZE ?_
 obtain rfl:p=fo h:=ω
 exact C1 (λz=>[B z]) ((Aw J M t W).symm)
set_option maxHeartbeats 8000000
def Be{z1 z2:Int}(h:z1=z2):T6 (I z1) (I z2):=by subst h;rfl
theorem Nd : z∈ins S p↔z∈S\/z=p:=by grind [ins]
theorem Ak(S:List Int):(gF S).map (·.1)=S:=by unfold gF;rw[List.map_map];simp[C8]
theorem nH{t:aM}{p:Nat}(a:p<t.K.length):af t (p:Nat)=nth t.K p:=by grind [af]
theorem Fc(h:ac)(G:dY h.J)(H:eD h.M)(d:xG h)(J:gI h.o)(u:bx h.J h.M=true):zzA 77 false [.val (some 24) (ac.enc .U h)] .one [B (pages0 h&&qV h)]:=by
 have hl1:=G.1;have hl2:=H.1;have hl3:fo h<=1048576:=d.1;have hl4:=J.1;have b:pages0 h=false->[B false]=[B (pages0 h&&qV h)]:=ψ
 refine fO 177 [(4,14,[25,26,27,28,29,30,31,32,33,34,35,36,37,38]),(16,14,[60,61,62,63,64,65,66,67,68,69,70,71,72,73]),(28,18,[102,103,104,105,106,107,108,109,110,111,112,113,114,115,116,117,118,119]),(42,23,[152,153,154,155,156,157,158,159,160,161,162,163,164,165,166,167,168,169,170,171,172,173,174])] Tryz.func77 rfl ?_
 refine ZP ?_
 refine CK (ι:=Nat) (λi=>[(1,.H .box (ac.enc .U h)),(18,.H .one (ce .U h.J)),(19,.H .one [I (h.J.length)]),(20,.H .one [I ((i:Nat):Int)])]) (λi=>i<=h.J.length/\dv i (yr h.J)=true) (λi=>h.J.length - i) 0 ?_ ⟨Z0 _,rfl⟩ λi g=>?_
 ·exact wB
 obtain⟨g,C⟩:=g;by_cases o:i<h.J.length
 ·have e:=ar o
  repeat'(first|refine gE ?_|with_reducible refine Bf.D (λa=>?_) (λa=>?_)|refine CO ω (aa (ik ω o)) ?_)
  all_goals first
   |exact b (GH (cK o (X0 ω)))
   | ((conv=>whnf);refine CG (i+1) ⟨ω,bZ C (O0 ω)⟩ ω ?_;(exact wB))
 obtain rfl:i=h.J.length:=ω
 refine ZE ?_
 refine CK (ι:=Nat × List Int) (λi=>[(1,.H .box (ac.enc .U h)),(5,.H .one [.m (gF i.2)]),(42,.H .one (ce .U h.J)),(43,.H .one [I (h.J.length)]),(44,.H .one [I ((i.1:Nat):Int)])]) (λi=>i.1<=h.J.length/\∀z,z∈i.2↔z∈(h.J.take i.1).map (·.R)) (λi=>h.J.length - i.1) ((0,[])) ?_ ψ λi g=>?_
 ·exact wB
 obtain⟨i,S⟩:=i;obtain⟨K,Z⟩:=g;simp only at K Z |-;by_cases li2:i<h.J.length
 ·have e:=ar li2
  repeat'(first|refine gE ?_|refine Mu.mk (zu S _) ?_)
  (refine CG (i+1,ins S (nth h.J i).R) ⟨(by simp only;omega),λz=>by grind [Nd,X7]⟩ (by simp only;omega) ?_;(exact wB))
 obtain rfl:i=h.J.length:=ω
 rw[C7]at Z
 refine ZE ?_
 refine CK (ι:=Nat × List Int) (λk=>[(1,.H .box (ac.enc .U h)),(5,.H .one [.m (gF k.2)]),(53,.H .one (cJ .U h.M)),(54,.H .one [I (h.M.length)]),(55,.H .one [I ((k.1:Nat):Int)])]) (λk=>k.1<=h.M.length/\(∀z,z∈k.2↔z∈pgs h.J (h.M.take k.1))/\dv k.1 (vq h)=true) (λk=>h.M.length - k.1) ((0,S)) ?_ (⟨Z0 _,λz=>by grind [pgs],rfl⟩) λk L=>?_
 ·exact wB
 obtain⟨k,S2⟩:=k;obtain⟨L,c,M⟩:=L;simp only at L c M |-;by_cases F:k<h.M.length
 ·have e:=ar F
  have hpg:=vS u e
  repeat'(first|refine gE ?_|with_reducible refine Bf.D (λa=>?_) (λa=>?_)|refine CO ω (aa (ik ω F)) ?_)
  all_goals first
   |exact b (vf (cK F (RJ (X0 ω))))
   |have l:zw h.M k=true:=O0 ω
    (conv=>whnf)
    refine CK (ι:=Nat × List Int) (λq=>[(1,.H .box (ac.enc .U h)),(5,.H .one [.m (gF q.2)]),(9,.H .box (aE.enc .U (nth h.M k))),(10,.H .one [I ((nth h.M k).R+(q.1:Nat))]),(53,.H .one (cJ .U h.M)),(54,.H .one [I (h.M.length)]),(55,.H .one [I ((k:Nat):Int)])]) (λq=>q.1<=(nth h.M k).a4.toNat/\(∀z,z∈q.2↔z∈S2++lpgs (nth h.M k) q.1)/\dv q.1 (Bb h (nth h.M k))=true) (λq=>(nth h.M k).a4.toNat - q.1) ((0,S2)) ?_ (⟨Z0 _,λz=>by simp[lpgs],rfl⟩) λq a=>?_
    ·exact wB
    obtain⟨q,O⟩:=q;obtain⟨Q,n,R⟩:=a;simp only at Q n R |-;by_cases lq:q<(nth h.M k).a4.toNat
    ·have hfl:=gh h ((nth h.M k).R+(q:Nat))
     repeat'(first|refine gE ?_|with_reducible refine Bf.N (λa=>?_) (λa=>?_)|refine CB (l7 h _ d) ?_|refine Mu.mk (zu O _) ?_)
     all_goals first
      |exact b (vf (cK F (Rr lq (X0 ω))))
      | ((conv=>whnf)
         refine CG (q+1,ins O ((nth h.M k).R+(q:Nat))) ⟨(by simp only;omega),λz=>by simp only[Nd,n];rw[lR];simp[or_assoc],bZ R (O0 ω)⟩ (by simp only;omega) ?_
         (repeat'(first|exact trivial|rfl|refine CN ?_ ?_|exact Be (by simp;omega))))
    obtain rfl:q=(nth h.M k).a4.toNat:=ω
    refine ZE ?_
    (refine CG (k+1,O) ⟨(by simp only;omega),(λz=>by simp only[n];rw[qa _ e];simp[c]),bZ M (GD l R)⟩ (by simp only;omega) ?_;(exact wB))
 obtain rfl:k=h.M.length:=ω
 rw[C7]at c
 refine ZE ?_
 refine CK (ι:=Nat) (λp=>[(1,.H .box (ac.enc .U h)),(5,.H .one [.m (gF S2)]),(98,.H .one [I (fo h)]),(99,.H .one [I ((p:Nat):Int)])]) (λp=>p<=fo h/\dv p (xx h)=true) (λp=>fo h - p) 0 ?_ ⟨Z0 _,rfl⟩ λp hp=>?_
 ·exact wB
 obtain⟨hp,ap⟩:=hp;by_cases lp:p<fo h
 ·have T:=Bp h.o (p:Nat) ω
  have w:=fx h.F (p:Nat) d;rw[nH lp]at w
  repeat'(first|refine gE ?_|with_reducible (first|refine Bf.D (λa=>?_) (λa=>?_)|refine Bf.NB (λa=>?_) (λa=>?_))|refine Ml.mk (oC (p:Nat) S2) ?_|refine Bf.P (λa=>?_) (λa=>?_))
  all_goals first
   |exact b (Ji (cK lp (by unfold xx tbl;have:=c (p:Nat);grind)))
   | ((conv=>whnf);refine CG (p+1) ⟨ω,bZ ap (by unfold xx tbl;have:=c (p:Nat);grind)⟩ ω ?_;(exact wB))
 obtain rfl:p=fo h:=ω
 refine ZE ?_
 have hpn:fo h=h.F.G.Q.K.length:=rfl
 (conv=>whnf)
 refine CK (ι:=Option Int × List Int) (λt=>[(1,.H .box (ac.enc .U h)),(122,.H .one [.it t.1 t.2])]) (λt=>(∀z∈S2,z∈t.2\/z<fo h)/\∀z∈t.2,z∈S2) (λt=>t.2.length) ((none,(gF S2).map (·.1))) ?_ (⟨λz hz=>.inl (by grind [Ak]),λz hz=>by grind [Ak]⟩) λt ht=>?_
 ·exact wB
 obtain⟨cur,left⟩:=t;obtain⟨U,V⟩:=ht;simp only at U V |-
 repeat'(first|refine gP ?_|with_reducible refine Bf.D (λa=>?_) (λa=>?_)|refine Nt.mk (λa=>?_) (λl1 k l2 a=>?_))
 rotate_left
 ·exact b (JM (p:=k) ψ ω)
 ·((conv=>whnf);refine CG (some k,l1++l2) ψ (by subst left;simp) ?_;(exact wB))
 have y:∀p∈pgs h.J h.M,p<fo h:=ψ
 have h0:pages0 h=true:=Aw C M y ap;rw[h0,Bool.true_and]
 (conv=>whnf)
 refine CK (ι:=Nat) (λi=>[(1,.H .box (ac.enc .U h)),(136,.H .one (ce .U h.J)),(137,.H .one [I (h.J.length)]),(138,.H .one [I ((i:Nat):Int)])]) (λi=>i<=h.J.length/\dv i (λi=>dv i (ns h i))=true) (λi=>h.J.length - i) 0 ?_ ⟨Z0 _,rfl⟩ λi g=>?_
 ·exact wB
 obtain⟨g,C⟩:=g;by_cases o:i<h.J.length
 ·have e:=ar o
  have W:(h.J.take i).length=i:=ψ
  repeat'(first|refine gE ?_|refine CY i rfl (by simp;omega) (λr T=>by obtain⟨z,-,rfl⟩:=O5.1 T;rfl) (C5 ..) ?_)
  refine CK (ι:=Nat) (λj=>[(1,.H .box (ac.enc .U h)),(14,.H .box (aA.enc .U (nth h.J i))),(136,.H .one (ce .U h.J)),(137,.H .one [I (h.J.length)]),(138,.H .one [I ((i:Nat):Int)]),(146,.H .one (ce .U (h.J.take i))),(147,.H .one [I ((h.J.take i).length)]),(148,.H .one [I ((j:Nat):Int)])]) (λj=>j<=(h.J.take i).length/\dv j (ns h i)=true) (λj=>(h.J.take i).length - j) 0 ?_ ⟨Z0 _,rfl⟩ λj hj=>?_
  ·exact wB
  obtain⟨hj,X⟩:=hj;by_cases lj:j<(h.J.take i).length
  ·have hy:=ar lj
   have he:nth (h.J.take i) j=nth h.J j:=bq (by grind [ar]);rw[he]at hy;have w:=ny (nth h.J i) (nth h.J j);cases Y:meshable (nth h.J i) (nth h.J j)<;>rw[Y]at w
   all_goals
    repeat'(first|refine gE ?_|with_reducible refine Bf.E (λa=>?_) (λa=>?_)|refine CB (dR (tbl h) _ d) ?_)
    all_goals first
     | exact C1 (λz=>[B z]) ((by symm;exact cK o (cK (i:=j) ω (by unfold ns;rw[Y];grind))))
     | ((conv=>whnf);refine CG (j+1) ⟨ω,bZ X (by unfold ns;rw[Y];grind)⟩ ω ?_;(exact wB))
  obtain rfl:j=(h.J.take i).length:=ω
  rw[W]at X
  refine ZE ?_
  (refine CG (i+1) ⟨ω,bZ C X⟩ ω ?_;(exact wB))
 obtain rfl:i=h.J.length:=ω
 refine ZE ?_
 exact C1 (λz=>[B z]) ((by grind [qV]))
set_option maxHeartbeats 8000000
def mS[Inhabited α](pr:α->Bool)(xs:List α):cV pr xs = -1\/∃n,n<xs.length/\cV pr xs=(n:Nat)/\pr (nth xs n)=true:=by
 unfold cV;cases h:xs.findIdx? pr with
 | none=>exact .inl rfl
 | some i=>
  obtain⟨a,b,-⟩:=I9.1 h;exact .inr ⟨i,a,rfl,by rw[bq (C3 a)];exact b⟩
def GR(a:i<h.J.length)(b:k<(aX h (nth h.J i).R).length)(c:nG h i (nth (aX h (nth h.J i).R) k)=false):wP h=false:=by
 unfold wP;exact cK a (iA (ar b) c)
theorem Ga(h:ac)(j:dY h.J)(c:xG h):zzA 212 false [.val (some 24) (ac.enc .U h)] .one [B (wP h)]:=by
 have l:=j.1;have E:fo h<=1048576:=c.1;refine fO 55 [(4,8,[14,15,16,17,18,19,20,21]),(8,6,[28,29,30,31,32,33]),(9,21,[34,35,36,37,38,39,40,41,42,43,44,45,46,47,48,49,50,51,52,53,54])] Tryz.func212 rfl ?_
 refine ZP ?_
 refine CK (ι:=Nat) (λi=>[(1,.H .box (ac.enc .U h)),(3,.H .one [I ((i:Nat):Int)])]) (λi=>i<=h.J.length/\dv i (λi=>(aX h (nth h.J i).R).all (nG h i))=true) (λi=>h.J.length - i) 0 ?_ ⟨Z0 _,rfl⟩ λi w=>?_
 ·exact wB
 obtain⟨w,F⟩:=w;by_cases o:i<h.J.length
 ·have q:=ar o
  have G:=gh h (nth h.J i).R
  repeat'(first|refine gE ?_|refine CB (je h _ c) ?_)
  refine CK (ι:=Nat) (λk=>[(1,.H .box (ac.enc .U h)),(3,.H .one [I ((i:Nat):Int)]),(4,.H .one (aH .own (aX h (nth h.J i).R))),(5,.H .one [I ((k:Nat):Int)])]) (λk=>k<=(aX h (nth h.J i).R).length/\((aX h (nth h.J i).R).take k).all (nG h i)=true) (λk=>(aX h (nth h.J i).R).length - k) (0) ?_ ψ λk y=>?_
  ·exact wB
  obtain⟨y,H⟩:=y;by_cases r:k<(aX h (nth h.J i).R).length
  ·have d:=ar r
   have a:=lg h (nth (aX h (nth h.J i).R) k) l;rcases mS (n7 (nth (aX h (nth h.J i).R) k)) h.J with g|⟨n,J,g,-⟩
   ·rw[show ir h (nth (aX h (nth h.J i).R) k) = -1 from g]at a
    have t:nG h i (nth (aX h (nth h.J i).R) k)=false:=by grind [nG,ir]
    repeat'(first|refine gE ?_|with_reducible (first|refine Bf.D (λb=>?_) (λb=>?_)|refine Bf.N (λb=>?_) (λb=>?_)))
    all_goals first
     | exact C1 (λz=>[B z]) ((GR o r t).symm)
     |(exfalso;omega)
   rw[show ir h (nth (aX h (nth h.J i).R) k)=(n:Nat) from g]at a;have K:=ar J;have C:=nE (nth h.J i) (nth h.J n);have e:nG h i (nth (aX h (nth h.J i).R) k)=(decide ((n:Int)=(i:Nat)) || meshable (nth h.J i) (nth h.J n)):=by
    unfold nG;rw[show ir h (nth (aX h (nth h.J i).R) k)=(n:Nat) from g,O0 (p:=(0:Int)<=(n:Nat)) ω];simp
   cases u:meshable (nth h.J i) (nth h.J n)<;>rw[u]at C
   all_goals
    repeat'(first|refine gE ?_|with_reducible (first|refine Bf.D (λb=>?_) (λb=>?_)|refine Bf.N (λb=>?_) (λb=>?_)))
    all_goals first
     | exact C1 (λz=>[B z]) ((GR o r (by rw[e,u];grind)).symm)
     | ((conv=>whnf);refine CG (k+1) ⟨ω,di d H (by rw[e,u];grind)⟩ ω ?_;(exact wB))
     |(exfalso;omega)
  refine ZE ?_
  (refine CG (i+1) ⟨ω,bZ F ψ⟩ ω ?_;(exact wB))
 obtain rfl:i=h.J.length:=ω
 refine ZE ?_
 exact C1 (λz=>[B z]) ((by grind [wP]))
def Pv(j:cz)(b:cz.sml j):zzA 217 false [.val (some 5) (cz.enc .U j)] .one [B (rZ j)]:=by
 have c:j.X.T.length<=1048576:=b;refine fO 30 [] Tryz.func217 rfl ?_
 repeat'(first|refine gP ?_|with_reducible (first|refine Bf.E (λa=>?_) (λa=>?_)|refine Bf.D (λa=>?_) (λa=>?_)))
 all_goals exact C1 (λz=>[B z]) ((by unfold rZ;first|(symm;exact X0 ω)|(rw[I6,beq_iff_eq,C0];omega)))
theorem pp(sp:List aA)(la:List aE)(a:Int):((denotes sp la a).b6=1->0<=(denotes sp la a).c1/\(denotes sp la a).c1.toNat<sp.length)/\((denotes sp la a).b6=3->0<=(denotes sp la a).c1/\(denotes sp la a).c1.toNat<la.length):=by grind [I9,denotes,pu]
theorem Kw(h:ac)(a c:Int)(d:dY h.J)(e:eD h.M)(b:bx h.J h.M=true)(k:oy a):zzA 363 false [.val (some 24) (ac.enc .U h),.val none [I a],.val none [I c]] .one [B (dL h a c)]:=by
 have j:=oH h.J h.M a d e b k;obtain⟨g,-⟩:=pp h.J h.M a;unfold dL;generalize denotes h.J h.M a=w at j g |-;refine fO 37 [] Tryz.func363 rfl ?_
 repeat'(first|refine gP ?_|with_reducible (first|refine Bf.D (λi=>?_) (λi=>?_)|refine Bf.E (λi=>?_) (λi=>?_))|refine CO (g (by assumption)).1 (aa (ar (g (by assumption)).2)) ?_)
 all_goals exact C1 (λz=>[B z]) (ψ)
theorem DJ(h:ac)(o:bu)(w:kD)(a:denotes h.J h.M o.Addr=w):jM h o=(decide (w.c2=0)&&((decide (w.b6=1)&&decide ((nth h.J w.c1.toNat).d=aL o.y)) || (decide (w.b6=3)&&decide ((nth h.M w.c1.toNat).y=o.y)))):=by grind [jM]
def kC(a:i<h.O.length)(b:objAt (IntKind.i64.wrap (h.b - 1)) h i=false):gH h=false:=cK a b
theorem LJ(h1:iI a h i=false):objAt a h i=false:=by grind [objAt]
theorem MD(h1:(h.O.take i).any (fL (nth h.O i).Id)=true):objAt a h i=false:=by grind [objAt]
theorem Mw(h1:jM h (nth h.O i)=false):objAt a h i=false:=by grind [objAt]
theorem E4(h1:iI a h i=true)(b:(h.O.take i).any (fL (nth h.O i).Id)=false)(c:jM h (nth h.O i)=true):objAt a h i=true:=by grind [objAt]
theorem Lt(h:ac)(l:dY h.J)(n:eD h.M)(g:bx h.J h.M=true)(K:h.O.length<=1048576)(L:h.S.length<=1048576)(H:∀o∈h.O,oy o.Addr):zzA 215 false [.val (some 24) (ac.enc .U h)] .one [B (gH h)]:=by
 refine fO 117 [(5,33,[21,22,23,24,25,26,27,28,29,30,31,32,33,34,35,36,37,38,39,40,41,42,43,44,45,46,47,48,49,50,51,52,53]),(10,9,[59,60,61,62,63,64,65,66,67]),(13,16,[75,76,77,78,79,80,81,82,83,84,85,86,87,88,89,90]),(14,15,[91,92,93,94,95,96,97,98,99,100,101,102,103,104,105])] Tryz.func215 rfl ?_
 refine ZP ?_
 refine CK (ι:=Nat) (λi=>[(1,.H .box (ac.enc .U h)),(3,.H .one [I ((i:Nat):Int)])]) (λi=>i<=h.O.length/\dv i (objAt (IntKind.i64.wrap (h.b - 1)) h)=true) (λi=>h.O.length - i) 0 ?_ ⟨Z0 _,rfl⟩ λi t=>?_
 ·exact wB
 obtain⟨t,u⟩:=t;by_cases e:i<h.O.length
 ·have y:=ar e
  have C:=oH h.J h.M (nth h.O i).Addr l n g (H _ (au e));obtain⟨p,q⟩:=pp h.J h.M (nth h.O i).Addr;have b:=DJ h (nth h.O i) _ rfl;generalize denotes h.J h.M (nth h.O i).Addr=w at C p q b;by_cases c:iI (IntKind.i64.wrap (h.b - 1)) h i=true
  ·have a:=c
   unfold iI at a;rw[C0]at a
   repeat'(first|refine gE ?_|with_reducible refine Bf.D (λd=>?_) (λd=>?_)|refine CO ω (aa (ik ω e)) ?_|refine CB (aK _ _ _) ?_|refine CP rfl ?_)
   all_goals
    (conv=>whnf)
    refine CK (ι:=Nat) (λk=>[(1,.H .box (ac.enc .U h)),(3,.H .one [I ((i:Nat):Int)]),(4,.H .box (bu.enc .U (nth h.O i))),(5,.H .one [I ((k:Nat):Int)])]) (λk=>k<=i/\(h.O.take k).any (fL (nth h.O i).Id)=false) (λk=>i - k) (0) ?_ (⟨Z0 _,rfl⟩) λk F=>?_
    ·exact wB
    obtain⟨F,G⟩:=F;by_cases J:k<i
    ·have r:=ar (xs:=h.O) (i:=k) ω
     repeat'(first|refine gE ?_|with_reducible refine Bf.E (λd=>?_) (λd=>?_))
     all_goals first
      | exact C1 (λz=>[B z]) ((kC e (MD (F6 (i:=k) (by rw[List.getElem?_take_of_lt J];exact r) (O0 (by assumption))))).symm)
      | ((conv=>whnf);refine CG (k+1) ⟨ω,yO r G (X0 (by assumption))⟩ ω ?_;(exact wB))
    obtain rfl:k=i:=ω
    repeat'(first|refine gE ?_|with_reducible (first|refine Bf.D (λd=>?_) (λd=>?_)|refine Bf.E (λd=>?_) (λd=>?_)|refine Bf.N (λd=>?_) (λd=>?_))|refine CO (p (by assumption)).1 (aa (ar (p (by assumption)).2)) ?_|refine CO (q (by assumption)).1 (aa (ar (q (by assumption)).2)) ?_|refine CB (lQ _) ?_)
    all_goals first
     | exact C1 (λz=>[B z]) ((kC e (Mw (by rw[b];grind))).symm)
     | ((conv=>whnf);refine CG (k+1) ⟨ω,bZ u (E4 c G (by rw[b];grind))⟩ ω ?_;(exact wB))
     |(exfalso;omega)
  have j:iI (IntKind.i64.wrap (h.b - 1)) h i=false:=by simpa using c
  have a:=j;unfold iI at a;rw[C6]at a
  repeat'(first|refine gE ?_|with_reducible refine Bf.D (λd=>?_) (λd=>?_)|refine CO ω (aa (ik ω e)) ?_|refine CB (aK _ _ _) ?_|refine CP rfl ?_)
  all_goals first
   | exact C1 (λz=>[B z]) ((kC e (LJ j)).symm)
   |(exfalso;omega)
 obtain rfl:i=h.O.length:=ω
 refine ZE ?_
 exact C1 (λz=>[B z]) ((show true=gH h from u.symm))
theorem r8(o a:bu):zzA 234 false [.val (some 4) (bu.enc .U o),.ptr (bu.enc .U a)] .one [B (fL a.Id o)]:=by
 refine fO 9 [] Tryz.func234 rfl ?_
 refine ZP ?_
 grind [fL]
theorem HM(h:ac)(n:dY h.J)(o:eD h.M)(J:h.O.length<=1048576)(K:h.S.length<=1048576):zzA 81 false [.val (some 24) (ac.enc .U h)] .one [B (gH h)]:=by
 refine fO 105 [(4,33,[16,17,18,19,20,21,22,23,24,25,26,27,28,29,30,31,32,33,34,35,36,37,38,39,40,41,42,43,44,45,46,47,48]),(9,16,[62,63,64,65,66,67,68,69,70,71,72,73,74,75,76,77]),(10,15,[78,79,80,81,82,83,84,85,86,87,88,89,90,91,92])] Tryz.func81 rfl ?_
 refine ZP ?_
 refine CK (ι:=Nat) (λi=>[(1,.H .box (ac.enc .U h)),(9,.H .one (oG .U h.O)),(10,.H .one [I (h.O.length)]),(11,.H .one [I ((i:Nat):Int)])]) (λi=>i<=h.O.length/\dv i (objAt (IntKind.i64.wrap (h.b - 1)) h)=true) (λi=>h.O.length - i) 0 ?_ ⟨Z0 _,rfl⟩ λi F=>?_
 ·exact wB
 obtain⟨F,G⟩:=F;by_cases g:i<h.O.length
 ·have p:=ar g
  have H:=oR h.J h.M (nth h.O i).Addr n o;obtain⟨q,t⟩:=pp h.J h.M (nth h.O i).Addr;have b:=DJ h (nth h.O i) _ rfl;generalize denotes h.J h.M (nth h.O i).Addr=w at H q t b;have j:=vF (h.O.take i) (fL (nth h.O i).Id) ψ;by_cases c:iI (IntKind.i64.wrap (h.b - 1)) h i=true
  ·have a:=c
   unfold iI at a;rw[C0]at a;cases d:(h.O.take i).any (fL (nth h.O i).Id)<;>rw[d]at j
   ·repeat'(first|refine gE ?_|with_reducible (first|refine Bf.D (λe=>?_) (λe=>?_)|refine Bf.E (λe=>?_) (λe=>?_)|refine Bf.N (λe=>?_) (λe=>?_))|refine CO ω (aa (ik ω g)) ?_|refine CB (aN _ _ _) ?_|refine CY i rfl (by simp;omega) (λr u=>by obtain⟨z,-,rfl⟩:=O5.1 u;rfl) (C5 ..) ?_|refine Cq.mk (Bv (some 4) (bu.enc .U) (fL (nth h.O i).Id) (h.O.take i)) (r8 default (nth h.O i)).has (λL k rcs C=>by obtain⟨y,-,rfl,rfl,rfl⟩:=C;exact r8 y (nth h.O i)) ?_|refine CO (q (by assumption)).1 (aa (ar (q (by assumption)).2)) ?_|refine CO (t (by assumption)).1 (aa (ar (t (by assumption)).2)) ?_|refine CB (uD _) ?_|refine CP rfl ?_)
    all_goals first
     | exact C1 (λz=>[B z]) ((kC g (Mw (by rw[b];grind))).symm)
     | ((conv=>whnf);refine CG (i+1) ⟨ω,bZ G (E4 c d (by rw[b];grind))⟩ ω ?_;(exact wB))
     |(exfalso;omega)
   repeat'(first|refine gE ?_|with_reducible refine Bf.D (λe=>?_) (λe=>?_)|refine CO ω (aa (ik ω g)) ?_|refine CB (aN _ _ _) ?_|refine CY i rfl (by simp;omega) (λr u=>by obtain⟨z,-,rfl⟩:=O5.1 u;rfl) (C5 ..) ?_|refine Cq.mk (Bv (some 4) (bu.enc .U) (fL (nth h.O i).Id) (h.O.take i)) (r8 default (nth h.O i)).has (λL k rcs C=>by obtain⟨y,-,rfl,rfl,rfl⟩:=C;exact r8 y (nth h.O i)) ?_|refine CP rfl ?_)
   all_goals first
    | exact C1 (λz=>[B z]) ((kC g (MD d)).symm)
    |(exfalso;omega)
  have l:iI (IntKind.i64.wrap (h.b - 1)) h i=false:=by simpa using c
  have a:=l;unfold iI at a;rw[C6]at a
  repeat'(first|refine gE ?_|with_reducible refine Bf.D (λe=>?_) (λe=>?_)|refine CO ω (aa (ik ω g)) ?_|refine CB (aN _ _ _) ?_|refine CP rfl ?_)
  all_goals first
   | exact C1 (λz=>[B z]) ((kC g (LJ l)).symm)
   |(exfalso;omega)
 obtain rfl:i=h.O.length:=ω
 refine ZE ?_
 exact C1 (λz=>[B z]) ((show true=gH h from G.symm))
set_option maxHeartbeats 8000000
theorem Nv(h:l8 sp la n=true):mR sp la (n+1)=mR sp la n++[(n:Int)]:=by grind [List.range_succ,mR]
theorem R2(h:l8 sp la n=false):mR sp la (n+1)=mR sp la n:=by grind [List.range_succ,mR]
theorem Ee(sp:List aA)(la:List aE)(n:Nat):(mR sp la n).length<=n:=by grind [mR]
theorem tO{w:kD}(a:denotes sp la (n:Nat)=w):l8 sp la n=(decide (w.c2=0)&&(decide (w.b6=1) || decide (w.b6=3))):=by grind [l8]
def Up(h:n<=1048576):oy (n:Nat):=⟨ω,ω⟩
theorem AS(sp:List aA)(la:List aE)(c:dY sp)(d:eD la)(a:bx sp la=true):zzA 364 false [.val none (ce .U sp),.val none (cJ .U la)] .one (aH .own (lC sp la)):=by
 have g:=n9 sp la c d;rw[a]at g;refine fO 40 [] Tryz.func364 rfl ?_ (.inr (bO _))
 refine ZP ?_
 refine CK (ι:=Nat) (λn=>[(0,.H .one (ce .U sp)),(1,.H .one (cJ .U la)),(5,.H .one (aH .own (mR sp la n))),(6,.H .one [I ((n:Nat):Int)])]) (λn=>n<=512) (λn=>512 - n) (0) ?_ (Z0 _) λn o=>?_
 ·exact wB
 have i:=Ee sp la n;by_cases p:n<512
 ·have h:=oH sp la (n:Nat) c d a (Up ω)
  generalize j:denotes sp la (n:Nat)=w at h;have e:=tO j
  repeat'(first|refine gE ?_|with_reducible refine Bf.E (λk=>?_) (λk=>?_)|refine CV cC (λr l=>by rw[C2.1 l];rfl) (by simp[bn,eG]) (by simp;omega) (by simp only[O1];exact zd (by simp;omega) (by decide)) rfl ?_)
  all_goals first
   |(have b:l8 sp la n=true:=by rw[e];grind
     (conv=>whnf)
     refine CG (n+1) ω ω ?_;rw[Nv b]
     (repeat'(first|exact trivial|rfl|exact CN rfl (CN (C1 (C.s dX.own) (by simp[rI])) trivial)|refine CN ?_ ?_)))
   |(have b:l8 sp la n=false:=by rw[e];grind
     (conv=>whnf)
     refine CG (n+1) ω ω ?_;rw[R2 b]
     (exact wA))
 obtain rfl:n=512:=ω
 refine ZE ?_
 rfl
theorem AC(m:aP)(a:m.a2.length=m.V.length):∀i,i<=m.V.length->(((flight1 m i).length+(flight2 m i).length:Nat):Int)=bI m i
 | 0,_=>rfl
 | i+1,h=>by
  have d:=AC m a i ω;have b:=ar (xs:=m.V) (i:=i) ω;have c:=ar (xs:=m.a2) (i:=i) ω;rw[pf b,p8 c];simp only[C4,O1];show _=bI m i+((nth m.V i).length+(nth m.a2 i).length);omega
theorem tZ(h:bT m=true):(aV m).length<=30:=by grind [AC,qu,bT]
def Jf(d:aP.wf m):∀a∈aV m,oy a:=by
 intro a b;unfold aV at b;split at b
 ·rcases t4.1 b with h|h
  ·obtain⟨l,c,h⟩:=List.mem_flatMap.1 h
   obtain⟨p,e,rfl⟩:=O5.1 h;exact((d.1.2 l c).2 p e).2
  obtain⟨l,c,h⟩:=List.mem_flatten.1 h;exact(d.2.2 l c).2 a h
 cases b
theorem Ny(h1:h.S.all (fT h)=false):lr h=false:=by grind [lr,kI]
theorem P9(h1:h.a7.a6.all (iP h)=false):lr h=false:=by grind [lr,kI]
theorem NA(h1:(aV h.w).all (lH h)=false):lr h=false:=by grind [lr,kI]
theorem NZ(a:i<(holders h).length)(b:nth (holders h) i∈(holders h).take i):lr h=false:=by
 have c:decide (holders h).Nodup=false:=Rh (S:=(holders h).take i) (p:=nth (holders h) i) (by
   have:=ar a;have e:(holders h).take i++[nth (holders h) i]=(holders h).take (i+1):=by grind [X7]
   grind) b
 grind [lr]
theorem wY(a:h.S[i]? = some c):((h.S.take (i+1)).flatMap λc=>c.Z.flatten)=((h.S.take i).flatMap λc=>c.Z.flatten)++c.Z.flatten:=by grind [X7]
theorem A5(a:c.Z[k]? = some l):(c.Z.take (k+1)).flatten=(c.Z.take k).flatten++l:=by grind [X7]
theorem Ka(h:ac)(hs:ac.sml h)(hw:ac.wf h)(t:bx h.J h.M=true)(w:bT h.w=true)(W:∀c∈h.S,bD c=true):zzA 216 false [.val (some 24) (ac.enc .U h)] .one [B (lr h)]:=by
 obtain⟨-,-,G,H,X,Y,Z,hsq,-⟩:=hs;obtain⟨-,-,-,-,-,hwc,hwm,hwq,-⟩:=hw;have hlo:h.O.length<=1048576:=X.1;have hlc:h.S.length<=1048576:=Y.1;have hlq:h.a7.a6.length<=1048576:=hsq.1;have hfl:=tZ w;have hfw:=Jf hwm;have y:∀a c,oy a->zzA 363 false [.val (some 24) (ac.enc .U h),.val none [I a],.val none [I c]] .one [B (dL h a c)]:=λa c ha=>Kw h a c G H t ha
 refine fO 159 [(16,8,[63,64,65,66,67,68,69,70]),(22,17,[86,87,88,89,90,91,92,93,94,95,96,97,98,99,100,101,102]),(29,7,[122,123,124,125,126,127,128]),(35,8,[142,143,144,145,146,147,148,149])] Tryz.func216 rfl ?_
 refine ZP ?_
 refine CK (ι:=Nat × List Int) (λi=>[(1,.H .box (ac.enc .U h)),(3,.H .one (aH .own i.2)),(4,.H .one [I ((i.1:Nat):Int)])]) (λi=>i.1<=h.O.length/\i.2=(h.O.take i.1).map (·.Addr)) (λi=>h.O.length - i.1) ((0,[])) ?_ ψ λi u=>?_
 ·exact wB
 obtain⟨i,S⟩:=i;obtain⟨u,Q⟩:=u;simp only at u Q |-;have hSl:S.length=i:=ψ
 by_cases li:i<h.O.length
 ·have E:=ar li
  repeat'(first|refine gE ?_|refine CV cC (λr l=>by rw[C2.1 l];rfl) (by simp[bn,eG]) (by simp;omega) (by simp only[O1];exact zd (by simp;omega) (by decide)) rfl ?_)
  ((conv=>whnf)
   refine CG (i+1,S++[(nth h.O i).Addr]) ⟨(by simp only;omega),(by grind [X7])⟩ (by simp only;omega) ?_
   (repeat'(first|exact trivial|rfl|exact CN rfl (CN (C1 (C.s dX.own) (by simp[rI])) trivial)|refine CN ?_ ?_)))
 obtain rfl:i=h.O.length:=ω
 rw[C7]at Q
 refine ZE ?_
 refine CK (ι:=Nat × List Int) (λi=>[(1,.H .box (ac.enc .U h)),(3,.H .one (aH .own i.2)),(5,.H .one [I ((i.1:Nat):Int)])]) (λi=>i.1<=h.S.length/\i.2=S++((h.S.take i.1).flatMap λc=>c.Z.flatten)/\(h.S.take i.1).all (fT h)=true/\i.2.length<=1048576+32*i.1) (λi=>h.S.length - i.1) ((0,S)) ?_ ψ λi u=>?_
 ·exact wB
 obtain⟨i,S2⟩:=i;obtain⟨hi2,n,ai,J⟩:=u;simp only at hi2 n ai J |-;by_cases li2:i<h.S.length
 ·have E:=ar li2
  obtain⟨h4,h8⟩:=wT (W _ (au li2));have hwl:=hwc.2 _ (au li2)
  refine ZE ?_
  refine CK (ι:=Nat × List Int) (λk=>[(1,.H .box (ac.enc .U h)),(3,.H .one (aH .own k.2)),(5,.H .one [I ((i:Nat):Int)]),(6,.H .one [I ((k.1:Nat):Int)])]) (λk=>k.1<=(nth h.S i).Z.length/\k.2=S2++((nth h.S i).Z.take k.1).flatten/\dv k.1 (tT h (nth h.S i))=true/\k.2.length<=S2.length+8*k.1) (λk=>(nth h.S i).Z.length - k.1) ((0,S2)) ?_ (⟨Z0 _,by simp,rfl,by simp⟩) λk hk=>?_
  ·exact wB
  obtain⟨k,R⟩:=k;obtain⟨hk,K,ak,hb3⟩:=hk;simp only at hk K ak hb3 |-;by_cases T:k<(nth h.S i).Z.length
  ·have hy:=ar T
   have hl8:=h8 _ (au T);have hwa:=(hwl.2 _ (au T)).2
   refine ZE ?_
   refine CK (ι:=Nat × List Int) (λj=>[(1,.H .box (ac.enc .U h)),(3,.H .one (aH .own j.2)),(5,.H .one [I ((i:Nat):Int)]),(6,.H .one [I ((k:Nat):Int)]),(7,.H .one (aH .U (nth (nth h.S i).Z k))),(8,.H .one [I ((j.1:Nat):Int)])]) (λj=>j.1<=(nth (nth h.S i).Z k).length/\j.2=R++(nth (nth h.S i).Z k).take j.1/\((nth (nth h.S i).Z k).take j.1).all (λa=>dL h a (k:Nat))=true) (λj=>(nth (nth h.S i).Z k).length - j.1) ((0,R)) ?_ ψ λj hj=>?_
   ·exact wB
   obtain⟨j,S4⟩:=j;obtain⟨hj,L,U⟩:=hj;simp only at hj L U |-;have hl4:S4.length=R.length+j:=ψ
   by_cases lj:j<(nth (nth h.S i).Z k).length
   ·have d:=ar lj
    have b:=y (nth (nth (nth h.S i).Z k) j) (k:Nat) ψ;cases g:dL h (nth (nth (nth h.S i).Z k) j) (k:Nat)<;>rw[g]at b
    ·refine ZE ?_
     exact C1 (λz=>[B z]) ((Ny (iA E (by unfold fT;exact cK T (iA d g)))).symm)
    repeat'(first|refine gE ?_|refine CV cC (λr l=>by rw[C2.1 l];rfl) (by simp[bn,eG]) (by simp;omega) (by show _*8<=_;simp;omega) rfl ?_)
    ((conv=>whnf)
     refine CG (j+1,S4++[nth (nth (nth h.S i).Z k) j]) ⟨(by simp only;omega),(by grind [X7]),di d U g⟩ (by simp only;omega) ?_
     (repeat'(first|exact trivial|rfl|exact CN rfl (CN (C1 (C.s dX.own) (by simp[rI])) trivial)|refine CN ?_ ?_)))
   obtain rfl:j=(nth (nth h.S i).Z k).length:=ω
   rw[C7]at L U
   refine ZE ?_
   (refine CG (k+1,S4) ⟨(by simp only;omega),(by grind [A5]),bZ ak U,(by simp only;omega)⟩ (by simp only;omega) ?_;(exact wB))
  obtain rfl:k=(nth h.S i).Z.length:=ω
  rw[C7]at K
  refine ZE ?_
  (refine CG (i+1,R) ⟨(by simp only;omega),(by grind [wY]),di E ai ak,(by simp only;omega)⟩ (by simp only;omega) ?_;(exact wB))
 obtain rfl:i=h.S.length:=ω
 rw[C7]at n ai
 refine ZE ?_
 refine CK (ι:=Nat × List Int) (λq=>[(1,.H .box (ac.enc .U h)),(3,.H .one (aH .own q.2)),(9,.H .one [I ((q.1:Nat):Int)])]) (λq=>q.1<=h.a7.a6.length/\q.2=S2++(h.a7.a6.take q.1).map (·.Addr)/\(h.a7.a6.take q.1).all (iP h)=true) (λq=>h.a7.a6.length - q.1) ((0,S2)) ?_ ψ λq M=>?_
 ·exact wB
 obtain⟨q,N⟩:=q;obtain⟨F,o,aq⟩:=M;simp only at F o aq |-;have hl5:N.length=S2.length+q:=ψ
 by_cases V:q<h.a7.a6.length
 ·have d:=ar V
  have b:=y (nth h.a7.a6 q).Addr (nth h.a7.a6 q).d (hwq.2.2 _ (au V)).1;cases g:dL h (nth h.a7.a6 q).Addr (nth h.a7.a6 q).d<;>rw[g]at b
  ·refine ZE ?_
   exact C1 (λz=>[B z]) ((P9 (iA d g)).symm)
  repeat'(first|refine gE ?_|refine CV cC (λr l=>by rw[C2.1 l];rfl) (by simp[bn,eG]) (by simp;omega) (by show _*8<=_;simp;omega) rfl ?_)
  ((conv=>whnf)
   refine CG (q+1,N++[(nth h.a7.a6 q).Addr]) ⟨(by simp only;omega),(by grind [X7]),di d aq g⟩ (by simp only;omega) ?_
   (repeat'(first|exact trivial|rfl|exact CN rfl (CN (C1 (C.s dX.own) (by simp[rI])) trivial)|refine CN ?_ ?_)))
 obtain rfl:q=h.a7.a6.length:=ω
 rw[C7]at o aq
 repeat'(first|refine gE ?_|refine CB (BM h.w Z) ?_)
 refine CK (ι:=Nat × List Int) (λq=>[(1,.H .box (ac.enc .U h)),(3,.H .one (aH .own q.2)),(10,.H .one (aH .own (aV h.w))),(11,.H .one [I ((q.1:Nat):Int)])]) (λq=>q.1<=(aV h.w).length/\q.2=N++(aV h.w).take q.1/\((aV h.w).take q.1).all (lH h)=true) (λq=>(aV h.w).length - q.1) ((0,N)) ?_ ψ λq M=>?_
 ·exact wB
 obtain⟨q,e⟩:=q;obtain⟨F,p,aq6⟩:=M;simp only at F p aq6 |-;have hl6:e.length=N.length+q:=ψ
 by_cases V:q<(aV h.w).length
 ·have d:=ar V
  have b:=y (nth (aV h.w) q) (-1) ψ;cases g:dL h (nth (aV h.w) q) (-1)<;>rw[g]at b
  ·refine ZE ?_
   exact C1 (λz=>[B z]) ((NA (iA d g)).symm)
  repeat'(first|refine gE ?_|refine CV cC (λr l=>by rw[C2.1 l];rfl) (by simp[bn,eG]) (by simp;omega) (by show _*8<=_;simp;omega) rfl ?_)
  ((conv=>whnf)
   refine CG (q+1,e++[nth (aV h.w) q]) ⟨(by simp only;omega),(by grind [X7]),di d aq6 g⟩ (by simp only;omega) ?_
   (repeat'(first|exact trivial|rfl|exact CN rfl (CN (C1 (C.s dX.own) (by simp[rI])) trivial)|refine CN ?_ ?_)))
 obtain rfl:q=(aV h.w).length:=ω
 rw[C7]at p aq6;have O:e=holders h:=by rw[p,o,n,Q];rfl
 have hheld:kI h=true:=by grind [kI]
 have hbig:e.length<=100000000:=ω
 clear p o n Q hSl hl5 J hl6
 refine ZE ?_
 refine Lp.fz 3 (ι:=Nat) (λi=>[(1,.H .box (ac.enc .U h)),(3,.H .one (aH .U e)),(12,.H .one [I ((i:Nat):Int)])]) (λi=>i<=e.length/\(e.take i).Nodup) (λi=>e.length - i) 0 ?_ ψ λi u=>?_
 ·(repeat'(first|exact trivial|rfl|exact CN rfl (show R1 (dM (aH .own e)) (aH .U e) by rw[dH];exact nQ _)|refine CN ?_ ?_))
 obtain⟨u,P⟩:=u;by_cases lj:i<e.length
 ·have d:=ar lj
  have htl:(e.take i).length=i:=ψ
  repeat'(first|refine gE ?_|with_reducible refine Bf.D (λM=>?_) (λM=>?_)|refine CY i rfl (by simp;omega) (λr l=>by obtain⟨z,-,rfl⟩:=O5.1 l;rfl) (C5 ..) ?_|refine CB (nP (e.take i) _ ω) ?_)
  all_goals first
   | exact C1 (λz=>[B z]) ((by rw[O]at *;exact(NZ (by assumption) (by assumption)).symm))
   | ((conv=>whnf);refine CG (i+1) ⟨ω,by rw[X7,d];exact mw P (by assumption)⟩ ω ?_;(exact wB))
 obtain rfl:i=e.length:=ω
 rw[C7]at P;have hlv:=Ee h.J h.M 512
 repeat'(first|refine gE ?_|refine CB (AS h.J h.M G H t) ?_)
 exact C1 (λz=>[B z]) ((by grind [lr]))
set_option maxHeartbeats 8000000
def dQ(h:ac):Bool:=(bT h.w&&decide (h.S.length=h.w.V.length))&&ia h.a7
def dh(h:ac):Bool:=((((((mb h&&wP h)&&dQ h)&&nh h)&&h.S.all bD)&&cx h)&&(gH h&&lr h))&&uh h
theorem Hw(h:ac)(X:ac.sml h)(Y:ac.wf h):zzA 73 false [.val (some 24) (ac.enc .U h)] .one [B (dh h)]:=by
 have M:=X;have O:=Y;obtain⟨u,w,b,j,P,y,C,E,F⟩:=X;obtain⟨-,-,-,-,Q,hwc,hwm,hwq,-⟩:=Y;have l:xG h:=u.1.2;have hpn:fo h<=1048576:=l.1;have R:h.O.length<=1048576:=P.1;have S:h.S.length<=1048576:=y.1;have hlq:h.a7.a6.length<=1048576:=E.1;have hlb:h.w.V.length<=1048576:=C.1.1;have d:=nz h.F u;have e:=n8 (fo h) h.o ω w;have g:=n9 h.J h.M b j;have r:=Ga h b l;have G:=mV h.w C;have T:=qb h.a7 E;cases Z:aD h.F<;>rw[Z]at d
 ·refine fO 150 [(8,10,[67,68,69,70,71,72,73,74,75,76])] Tryz.func73 rfl ?_
  repeat'(first|refine gP ?_|with_reducible refine Bf.N (λa=>?_) (λa=>?_))
  all_goals first
   | exact C1 (λz=>[B z]) ((by unfold dh mb;rw[Z];simp))
   |(exfalso;omega)
 cases e2:bG (fo h) h.o<;>rw[e2]at e
 ·refine fO 150 [(8,10,[67,68,69,70,71,72,73,74,75,76])] Tryz.func73 rfl ?_
  repeat'(first|refine gP ?_|with_reducible refine Bf.N (λa=>?_) (λa=>?_))
  all_goals first
   | exact C1 (λz=>[B z]) ((by unfold dh mb;rw[e2];simp))
   |(exfalso;omega)
 cases H:bx h.J h.M<;>rw[H]at g
 ·refine fO 150 [(8,10,[67,68,69,70,71,72,73,74,75,76])] Tryz.func73 rfl ?_
  repeat'(first|refine gP ?_|with_reducible refine Bf.N (λa=>?_) (λa=>?_))
  all_goals first
   | exact C1 (λz=>[B z]) ((by unfold dh mb;rw[H];simp))
   |(exfalso;omega)
 have n:=JH h b j l w H;cases e4:pages0 h<;>rw[e4]at n
 ·refine fO 150 [(8,10,[67,68,69,70,71,72,73,74,75,76])] Tryz.func73 rfl ?_
  repeat'(first|refine gP ?_|with_reducible refine Bf.N (λa=>?_) (λa=>?_))
  all_goals first
   | exact C1 (λz=>[B z]) ((by unfold dh mb;rw[e4];simp))
   |(exfalso;omega)
 cases e5:wP h<;>rw[e5]at r
 ·refine fO 150 [(8,10,[67,68,69,70,71,72,73,74,75,76])] Tryz.func73 rfl ?_
  repeat'(first|refine gP ?_|with_reducible refine Bf.N (λa=>?_) (λa=>?_))
  all_goals first
   | exact C1 (λz=>[B z]) ((by unfold dh ;rw[e5];simp))
   |(exfalso;omega)
 cases U:bT h.w<;>rw[U]at G
 ·refine fO 150 [(8,10,[67,68,69,70,71,72,73,74,75,76])] Tryz.func73 rfl ?_
  repeat'(first|refine gP ?_|with_reducible refine Bf.N (λa=>?_) (λa=>?_))
  all_goals first
   | exact C1 (λz=>[B z]) ((by unfold dh dQ;rw[U];simp))
   |(exfalso;omega)
 by_cases V:h.S.length=h.w.V.length;rotate_left
 ·refine fO 150 [(8,10,[67,68,69,70,71,72,73,74,75,76])] Tryz.func73 rfl ?_
  repeat'(first|refine gP ?_|with_reducible refine Bf.N (λa=>?_) (λa=>?_))
  all_goals first
   | exact C1 (λz=>[B z]) ((by unfold dh dQ;rw[X0 V];simp))
   |(exfalso;omega)
 cases e7:ia h.a7<;>rw[e7]at T
 ·refine fO 150 [(8,10,[67,68,69,70,71,72,73,74,75,76])] Tryz.func73 rfl ?_
  repeat'(first|refine gP ?_|with_reducible refine Bf.N (λa=>?_) (λa=>?_))
  all_goals first
   | exact C1 (λz=>[B z]) ((by unfold dh dQ;rw[e7];simp))
   |(exfalso;omega)
 have hlay:mb h=true:=by grind [mb]
 have hmc:dQ h=true:=by grind [dQ]
 refine fO 150 [(8,10,[67,68,69,70,71,72,73,74,75,76])] Tryz.func73 rfl ?_
 repeat'(first|refine gB ?_|with_reducible refine Bf.N (λa=>?_) (λa=>?_))
 all_goals try(exfalso;omega)
 (conv=>whnf)
 refine CK (ι:=Nat) (λi=>[(1,.H .box (ac.enc .U h)),(3,.H .one [I ((i:Nat):Int)])]) (λi=>i<=h.a7.a6.length/\(h.a7.a6.take i).all (λx=>decide (x.b7<=h.b2))=true) (λi=>h.a7.a6.length - i) (0) ?_ ψ λi hi=>?_
 ·exact wB
 obtain⟨hi,ai⟩:=hi;by_cases li:i<h.a7.a6.length
 ·have p:=ar li
  repeat'(first|refine gE ?_|with_reducible refine Bf.D (λa=>?_) (λa=>?_))
  all_goals first
   | exact C1 (λz=>[B z]) ((by unfold dh nh;rw[iA p (X0 ω)];simp))
   | ((conv=>whnf);refine CG (i+1) ⟨ω,di p ai (O0 ω)⟩ ω ?_;(exact wB))
 have hsi:nh h=true:=po ω ai
 refine ZE ?_
 refine CK (ι:=Nat) (λk=>[(1,.H .box (ac.enc .U h)),(4,.H .one [I ((k:Nat):Int)])]) (λk=>k<=h.S.length/\(h.S.take k).all bD=true) (λk=>h.S.length - k) (0) ?_ ψ λk hk=>?_
 ·exact wB
 obtain⟨hk,ak⟩:=hk;by_cases lk:k<h.S.length
 ·have p:=ar lk
  have W:=oA (nth h.S k) (y.2 _ (au lk));cases e8:bD (nth h.S k)<;>rw[e8]at W
  ·refine ZE ?_
   exact C1 (λz=>[B z]) ((by grind [dh]))
  refine ZE ?_
  (refine CG (k+1) ⟨ω,di p ak e8⟩ ω ?_;(exact wB))
 have hca:h.S.all bD=true:=po ω ak;have q:=Lt h b j H R S (λo ho=>(Q.2 o ho).2.1);have c10:=Ka h M O H U ψ;have c11:=Pv h.Y F;have c12:=Az h.Y F;have c13:=lg h h.Y.X.a3 b.1;have c14:=lg h h.Y.X.a0 b.1;by_cases hn:cx h=true;rotate_left
 ·have J:cx h=false:=by simpa using hn
  have c:=J;unfold cx at c;rw[C6]at c;cases L:gH h<;>rw[L]at q<;>cases e10:lr h<;>rw[e10]at c10
  all_goals
   repeat'(first|refine gE ?_|with_reducible refine Bf.D (λa=>?_) (λa=>?_)|refine CB (aK _ _ _) ?_)
   all_goals first
    | exact C1 (λz=>[B z]) ((by unfold dh;rw[J];simp))
    |(exfalso;omega)
 have c:=hn;unfold cx at c;rw[C0]at c;cases L:gH h<;>rw[L]at q
 ·repeat'(first|refine gE ?_|with_reducible refine Bf.D (λa=>?_) (λa=>?_)|refine CB (aK _ _ _) ?_)
  all_goals first
   | exact C1 (λz=>[B z]) ((by unfold dh;rw[L];simp))
   |(exfalso;omega)
 cases e10:lr h<;>rw[e10]at c10
 ·repeat'(first|refine gE ?_|with_reducible refine Bf.D (λa=>?_) (λa=>?_)|refine CB (aK _ _ _) ?_)
  all_goals first
   | exact C1 (λz=>[B z]) ((by unfold dh;rw[e10];simp))
   |(exfalso;omega)
 have K:dh h=uh h:=by grind [dh]
 rw[K];unfold uh;cases em:h.q
 ·repeat'(first|refine gE ?_|with_reducible refine Bf.D (λa=>?_) (λa=>?_)|refine CB (aK _ _ _) ?_|refine Bf.f em ?_)
  grind
 cases e12:jX h.Y<;>rw[e12]at c12
 all_goals
  repeat'(first|refine gE ?_|with_reducible (first|refine Bf.D (λa=>?_) (λa=>?_)|refine Bf.D (λa=>?_) (λa=>?_))|refine CB (aK _ _ _) ?_|refine Bf.t em ?_)
  all_goals first
   | exact C1 (λz=>[B z]) (ψ)
   |(exfalso;omega)
end Go.Proofs.YtiopgblagimpmaaGreat.Ab
